/-
 Parts of the proof: IsT, ScP, ScQ. Conditions: none.
-/
import Derived.Test.YtkkjnfappndmpaaGreatDoorQFold
import Derived.Test.YtkkjnfappndmpaaGreatDoorQaa
import Derived.Test.YtkkjnfappndmpaaGreatDoorQag
import Derived.Deep.LoopGhost
import Derived.Test.YtkkjnfappndmpaaGreatDoorQad
set_option linter.unusedVariables false
set_option linter.unusedSimpArgs false
namespace Go.Proofs.YtkkjnfappndmpaaGreatDoor
set_option maxHeartbeats 40000000
open Lib (hid)
open Go.ChangeShapes Go.WideShapes Go.ChangeAt Go.RowKit Go.Deep Go.Joins
open Go.ChangeMaps (open_string shut_string)
set_option maxRecDepth 100000
def tgW : FNode → Bool
 | .mk k _ _ ks => if k = 7 then (match ks with | [] => false | a :: _ => tgW a) else (k == 4 || k == 8)
theorem tgW_7 (n : Int) (t : ByteArray) (a : FNode) (r : List FNode) : tgW (.mk 7 n t (a :: r)) = tgW a := (tgW.eq_def _).trans (if_pos rfl)
theorem tgW_7n (n : Int) (t : ByteArray) : tgW (.mk 7 n t []) = false := (tgW.eq_def _).trans (if_pos rfl)
theorem tgW_o {k : Int} (h : ¬ k = 7) (n : Int) (t : ByteArray) (r : List FNode) : tgW (.mk k n t r) = (k == 4 || k == 8) := by unfold tgW; exact if_neg h
theorem tgN_o {k : Int} (h : ¬ k = 7) (n : Int) (t : ByteArray) (r : List FNode) : tgN (.mk k n t r) = (k == 4 || k == 8) := by unfold tgN; exact if_neg h
theorem ex_len7 {n : Int} {t : ByteArray} {ks : List FNode} (h : exF (.mk 7 n t ks) = true) : ks.length = 2 ∧ ks.all exF = true := by
 rw [exF_mk] at h
 have h2 : exK 7 ks = true := by
  cases e : exK 7 ks with
  | true => rfl
  | false => rw [e, Bool.and_false] at h; cases h
 have h3 : (ks.length == 2 && ks.all exF) = true := h2
 rw [Bool.and_eq_true] at h3
 exact ⟨by simpa using h3.1, h3.2⟩
theorem tg_eq : ∀ x : FNode, exF x = true → tgW x = tgN x
 | .mk k n t ks, h => by
  by_cases e : k = 7
  ·subst e
   obtain ⟨h1, h2⟩ := ex_len7 h
   match ks, h1, h2 with
   | [a, b], _, h2 =>
    rw [tgW_7, tg_eq a (by simp at h2; exact h2.1)]
    simp [tgN]
  ·rw [tgW_o e, tgN_o e]
theorem szN_pos : ∀ x : FNode, 1 ≤ szN x
 | .mk _ _ _ _ => by rw [szN]; omega
theorem szN_7 (k n : Int) (t : ByteArray) (a : FNode) (r : List FNode) : szN a < szN (.mk k n t (a :: r)) := by rw [szN, szL]; omega
theorem isT_impl (x : FNode) (hw : x.wt ≤ 9000000000) : SaB 134 x (tgW x) := by
 intro us w B hB0 hr
 obtain ⟨z0, z1, z2, z3⟩ := x
 obtain ⟨A3, c3, rfl, r3⟩ := hr.node
 have HR := hid r3
 have HW := hid hw
 clear hr r3 hw
 go_enter Tryz.func134, Tryz.ntmps134
 go_wp2_with fail
 go_loopg [] (szN ⟨z0, z1, z2, z3⟩) (fun k wr => ∃ (y0 y1 : Int) (y2 : ByteArray) (y3 : List FNode) (D : Option Addr) (d m : Nat), wr = w.alloc (.cells #[.int .i64 y0, .int .i64 y1, .string y2, .slice D m d] 44) ∧ Hid (tgW ⟨y0, y1, y2, y3⟩ = tgW ⟨z0, z1, z2, z3⟩) ∧ Hid (RdC w B (.s 44 4 m (FNode.flat y3)) (.slice D m d)) ∧ Hid (y3.length = m) ∧ Hid (FNode.wt ⟨y0, y1, y2, y3⟩ ≤ 9000000000) ∧ Hid (szN ⟨y0, y1, y2, y3⟩ ≤ k))
 case atStart => exact ⟨_, _, _, _, _, _, _, rfl, hid rfl, HR, hid rfl, HW, hid nr⟩
 case round =>
  obtain ⟨y0, y1, y2, y3, D, d, m, rfl, HT, HQ, HM, HV, HS⟩ := hrel
  have hy : m ≤ 9223372036854775807 := by have := HV.out; rw [FNode.wt_eq] at this; have := HM.out; omega
  have hb2 := hbA w y0 y1 y2 (.slice D m d)
  by_cases e7 : y0 = 7
  ·subst e7
   match y3 with
   | [] =>
    obtain rfl : m = 0 := HM.out.symm
    go_wp2_with fail
    go_ret
    refine ⟨ret_bool ?_, hb2.out⟩
    rw [← HT.out, tgW_7n]
   | ⟨a0, a1, a2, a3⟩ :: r =>
    have hpos : 0 < m := by have := HM.out; simp only [List.length_cons] at this; omega
    have HQ2 : Hid (RdC w B (.s 44 4 (FNode.mk a0 a1 a2 a3 :: r).length (FNode.flat (FNode.mk a0 a1 a2 a3 :: r))) (.slice D (FNode.mk a0 a1 a2 a3 :: r).length d)) := by rw [HM.out]; exact HQ
    obtain ⟨bca, offca, Ea, hblca, hcc⟩ := RdC.at_ (l := (FNode.mk a0 a1 a2 a3 :: r)) FNode.len HQ2.out (i := 0) (x := FNode.mk a0 a1 a2 a3) rfl
    obtain ⟨Da, da, ca_0, ca_1, ca_2, ca_3, q3⟩ := opN hb2.out qaa hcc (offca) (offca + 1) (offca + 2) (offca + 3) qaa
    have Qa := hid q3
    clear hcc q3
    subst Ea
    go_wp2_with fail
    go_roundg (szN ⟨a0, a1, a2, a3⟩)
    case rel => exact ⟨_, _, _, _, _, _, _, rfl, hid (by rw [← HT.out, tgW_7]), Qa, hid rfl, hid qa2, hid nr⟩
    case measure => exact Nat.lt_of_lt_of_le (szN_7 _ _ _ _ _) HS.out
  ·have HE := hid (tgW_o e7 y1 y2 y3)
   exact zz73
def isTh (t : ByteArray) : Bool := t.toList == thisL
def mtK (a b : Int) (x : FNode) : Bool := x.kd == a || x.kd == b
def sameTx (a b : Int) (x y : FNode) : Bool := mtK a b y && y.tx.toList == x.tx.toList
def dupAt (a b : Int) (l : List FNode) (i : Nat) : Bool := match l[i]? with
 | some x => mtK a b x && (l.take i).any (sameTx a b x)
 | none => false
def twF (a b : Int) (l : List FNode) : Bool := (List.range l.length).any (dupAt a b l)
/-- The node that a target's root is. -/
def rootF : FNode → FNode
 | .mk k n t ks => if k = 7 then (match ks with | [] => .mk k n t ks | a :: _ => rootF a) else .mk k n t ks
theorem rootF_7 (n : Int) (t : ByteArray) (a : FNode) (r : List FNode) : rootF (.mk 7 n t (a :: r)) = rootF a := (rootF.eq_def _).trans (if_pos rfl)
theorem rootF_7n (n : Int) (t : ByteArray) : rootF (.mk 7 n t []) = .mk 7 n t [] := (rootF.eq_def _).trans (if_pos rfl)
theorem rootF_o {k : Int} (h : ¬ k = 7) (n : Int) (t : ByteArray) (r : List FNode) : rootF (.mk k n t r) = .mk k n t r := by unfold rootF; exact if_neg h
/-- The road to the root is there. -/
def rtOk : FNode → Bool
 | .mk k _ _ ks => if k = 7 then (match ks with | [] => false | a :: _ => rtOk a) else true
theorem rtOk_7 (n : Int) (t : ByteArray) (a : FNode) (r : List FNode) : rtOk (.mk 7 n t (a :: r)) = rtOk a := (rtOk.eq_def _).trans (if_pos rfl)
theorem rtOk_7n (n : Int) (t : ByteArray) : rtOk (.mk 7 n t []) = false := (rtOk.eq_def _).trans (if_pos rfl)
/-- Is a node the variable this? -/
def smT (x : FNode) : Bool := x.kd == 4 && (x.nu == 0 && (isTh x.tx && x.kids.length == 0))
def hdTx (ks : List FNode) : Bool := match ks with | a :: _ => isTh a.tx | [] => false
def hdSm (ks : List FNode) : Bool := match ks with | a :: _ => smT a | [] => false
def atSm (ks : List FNode) (i : Nat) : Bool := match ks[i]? with | some a => smT a | none => false
def rnF (a : FNode) : Bool := (rootF a).kd == 4 && isTh (rootF a).tx
def hdRn (ks : List FNode) : Bool := match ks with | a :: _ => rnF a | [] => false
def hdRs (ks : List FNode) : Bool := match ks with | a :: _ => smT (rootF a) | [] => false
def thI (k : Int) (t : ByteArray) (ks : List FNode) : Bool :=
 if k = 24 ∨ k = 25 ∨ k = 40 then isTh t else if k = 17 then (isTh t || hdTx ks) else if k = 44 then hdTx ks
 else if k = 36 then ks.tail.any (fun y => y.kd == 4 && isTh y.tx) else if k = 46 then (ks.length == 2 && hdTx ks) else if k = 15 ∨ k = 16 ∨ k = 41 then hdRn ks else false
def thS (k : Int) (t : ByteArray) (ks : List FNode) : Bool :=
 if k = 24 ∨ k = 25 ∨ k = 40 then isTh t else if k = 17 then (isTh t || hdSm ks) else if k = 15 ∨ k = 16 ∨ k = 41 then hdRs ks
 else if k = 44 then hdSm ks else if k = 36 then (atSm ks 1 || (atSm ks (ks.length - 2) && ks.length == 4)) else if k = 46 then (ks.length == 2 && hdSm ks) else false
def isFn (k : Int) : Bool := k == 49 || (k == 55 || k == 23)
def lpN (k : Int) (lp : Bool) : Bool := if k = 35 ∨ k = 36 then true else if k = 45 ∨ k = 49 ∨ k = 55 ∨ k = 23 then false else lp
def inN (k : Int) (ins : Bool) : Bool := if k = 49 ∨ k = 55 ∨ k = 23 then true else ins
/-- What breaks rule r in a node alone: as the program sees it. -/
def bdI (r : Nat) (lp ins : Bool) (k : Int) (t : ByteArray) (ks : List FNode) : Bool :=
 if r = 1 then ((k == 37 || k == 38) && !lp) else if r = 2 then (k == 46 && !ins) else if r = 3 then thI k t ks
 else if r = 4 then (isFn k && twF 24 25 ks) else if r = 5 then ((k == 56 && twF 49 49 ks) || ((k == 50 || k == 51) && (twF 54 54 ks || twF 55 55 ks))) else false
/-- .. as the reference sees it. -/
def bdS (r : Nat) (lp ins : Bool) (k : Int) (t : ByteArray) (ks : List FNode) : Bool :=
 if r = 1 then (!lp && (k == 37 || k == 38)) else if r = 2 then (!ins && k == 46) else if r = 3 then thS k t ks
 else if r = 4 then twF 24 25 ks else if r = 5 then (twF 49 49 ks || (twF 54 54 ks || twF 55 55 ks)) else false
mutual
def brI (r : Nat) : Bool → Bool → FNode → Bool
 | lp, ins, .mk k _ t ks => bdI r lp ins k t ks || brIL r (lpN k lp) (inN k ins) ks
def brIL (r : Nat) : Bool → Bool → List FNode → Bool
 | _, _, [] => false
 | lp, ins, x :: l => brI r lp ins x || brIL r lp ins l
end
mutual
def brS (r : Nat) : Bool → Bool → FNode → Bool
 | lp, ins, .mk k _ t ks => bdS r lp ins k t ks || brSL r (lpN k lp) (inN k ins) ks
def brSL (r : Nat) : Bool → Bool → List FNode → Bool
 | _, _, [] => false
 | lp, ins, x :: l => brS r lp ins x || brSL r lp ins l
end
/-- The kids that both programs look at without asking are there. -/
def ndK (k : Int) (ks : List FNode) : Prop :=
 ((k = 17 ∨ k = 44 ∨ k = 15 ∨ k = 16 ∨ k = 41) → 1 ≤ ks.length) ∧ (k = 36 → ks.length = 3 ∨ ks.length = 4) ∧ ((k = 15 ∨ k = 16 ∨ k = 41) → ∀ a r, ks = a :: r → rtOk a = true)
mutual
def tkN : FNode → Prop
 | .mk k _ _ ks => ndK k ks ∧ tkL ks
def tkL : List FNode → Prop
 | [] => True
 | x :: l => tkN x ∧ tkL l
end
theorem tkL_mem : ∀ (l : List FNode), tkL l → ∀ x, x ∈ l → tkN x
 | [], _, x, h => absurd h List.not_mem_nil
 | y :: l, ht, x, h => by
  rw [tkL] at ht
  rcases List.mem_cons.mp h with rfl | h
  ·exact ht.1
  ·exact tkL_mem l ht.2 x h
def csF (br : Nat → Bool) : Int := if br 1 = true then 1 else if br 2 = true then 2 else if br 3 = true then 3 else if br 4 = true then 4 else if br 5 = true then 5 else 0
def csI (x : FNode) : Int := if scF x = true then csF (fun r => brI r false false x) else 5
def csS (x : FNode) : Int := if scF x = true then csF (fun r => brS r false false x) else 5
theorem brIL_take (r : Nat) (lp ins : Bool) : ∀ (l : List FNode) (k : Nat) (x : FNode), l[k]? = some x → brIL r lp ins (l.take (k + 1)) = (brIL r lp ins (l.take k) || brI r lp ins x)
 | [], k, x, h => by simp at h
 | y :: l, 0, x, h => by
  obtain rfl : y = x := by simpa using h
  simp [brIL]
 | y :: l, k + 1, x, h => by
  rw [List.take_succ_cons, List.take_succ_cons, brIL, brIL, brIL_take r lp ins l k x (by simpa using h), Bool.or_assoc]
theorem brSL_any (r : Nat) (lp ins : Bool) : ∀ l : List FNode, brSL r lp ins l = l.any (brS r lp ins)
 | [] => rfl
 | x :: l => by rw [brSL, brSL_any r lp ins l]; rfl
theorem tw_mem {a b : Int} {l : List FNode} (h : twF a b l = true) : ∃ y, y ∈ l ∧ (y.kd = a ∨ y.kd = b) := by
 unfold twF at h
 obtain ⟨i, _, h2⟩ := List.any_eq_true.mp h
 unfold dupAt at h2
 cases hx : l[i]? with
 | none => rw [hx] at h2; cases h2
 | some x =>
  rw [hx] at h2
  have h2 : (mtK a b x && (l.take i).any (sameTx a b x)) = true := h2
  have h3 : mtK a b x = true := by
   rw [Bool.and_eq_true] at h2
   exact h2.1
  unfold mtK at h3
  rw [Bool.or_eq_true, beq_iff_eq, beq_iff_eq] at h3
  exact ⟨x, List.mem_of_getElem? hx, h3⟩
theorem tw_no {a b : Int} {l : List FNode} (h : ∀ y, y ∈ l → y.kd ≠ a ∧ y.kd ≠ b) : twF a b l = false := by
 cases ht : twF a b l with
 | false => rfl
 | true =>
  obtain ⟨y, hy, h2⟩ := tw_mem ht
  obtain ⟨h3, h4⟩ := h y hy
  rcases h2 with h2 | h2
  ·exact absurd h2 h3
  ·exact absurd h2 h4
theorem tw_false {a b : Int} {l : List FNode} (h : ∀ y, y ∈ l → y.kd ≠ a ∧ y.kd ≠ b) (h2 : twF a b l = true) : False := by
 rw [tw_no h] at h2
 cases h2
/-- What makes both programs say the same at a node. -/
def ndE (k : Int) (t : ByteArray) (ks : List FNode) : Prop :=
 thI k t ks = thS k t ks ∧ (twF 24 25 ks = true → isFn k = true) ∧ (twF 49 49 ks = true → k = 56) ∧ (twF 54 54 ks = true → k = 50 ∨ k = 51) ∧ (twF 55 55 ks = true → k = 50 ∨ k = 51)
theorem bd_eq {k : Int} {t : ByteArray} {ks : List FNode} (h : ndE k t ks) (r : Nat) (lp ins : Bool) : bdI r lp ins k t ks = bdS r lp ins k t ks := by
 obtain ⟨h1, h2, h3, h4, h5⟩ := h
 unfold bdI bdS
 by_cases r1 : r = 1
 ·rw [if_pos r1, if_pos r1, Bool.and_comm]
 rw [if_neg r1, if_neg r1]
 by_cases r2 : r = 2
 ·rw [if_pos r2, if_pos r2, Bool.and_comm]
 rw [if_neg r2, if_neg r2]
 by_cases r3 : r = 3
 ·rw [if_pos r3, if_pos r3, h1]
 rw [if_neg r3, if_neg r3]
 by_cases r4 : r = 4
 ·rw [if_pos r4, if_pos r4]
  cases ht : twF 24 25 ks with
  | false => rw [Bool.and_false]
  | true => rw [h2 ht]; rfl
 rw [if_neg r4, if_neg r4]
 by_cases r5 : r = 5
 ·rw [if_pos r5, if_pos r5]
  cases ht1 : twF 49 49 ks with
  | true => rw [h3 ht1]; simp
  | false =>
   rw [Bool.and_false, Bool.false_or, Bool.false_or]
   cases ht2 : twF 54 54 ks with
   | true => rcases h4 ht2 with rfl | rfl <;> rfl
   | false =>
    cases ht3 : twF 55 55 ks with
    | true => rcases h5 ht3 with rfl | rfl <;> rfl
    | false => rw [Bool.or_false, Bool.and_false]
 rw [if_neg r5, if_neg r5]
/-- A node as it may stand somewhere in a script. -/
def gd (x : FNode) : Prop :=
 exF x = true ∨ itF x = true ∨ stF x = true ∨ ctF x = true ∨ fnF x = true ∨ ((x.kd = 24 ∨ x.kd = 25 ∨ x.kd = 52 ∨ x.kd = 53) ∧ x.kids = []) ∨ ((x.kd = 49 ∨ x.kd = 55) ∧ usF false x.kids = true) ∨ ((x.kd = 50 ∨ x.kd = 51) ∧ ∃ sg first, clsF (x.kd == 50) sg first x.kids = true) ∨
 (x.kd = 54 ∧ ∃ y, x.kids = [y] ∧ exF y = true) ∨ (x.kd = 56 ∧ x.kids.all topF = true)
def Nd (x : FNode) : Prop := (∀ y, y ∈ x.kids → gd y) ∧ ndK x.kd x.kids ∧ ndE x.kd x.tx x.kids
theorem all_mem {f : FNode → Bool} {l : List FNode} (h : l.all f = true) : ∀ y, y ∈ l → f y = true := List.all_eq_true.mp h
theorem exK_of {x : FNode} (h : exF x = true) : exK x.kd x.kids = true := by
 obtain ⟨k, n, t, ks⟩ := x
 rw [exF_mk, Bool.and_eq_true] at h
 exact h.2
theorem stK_of {x : FNode} (h : stF x = true) : stK x.kd x.kids = true := by
 obtain ⟨k, n, t, ks⟩ := x
 rw [stF_mk, Bool.and_eq_true] at h
 exact h.2
theorem len0 {l : List FNode} (h : (l.length == 0) = true) : l = [] := by
 rw [beq_iff_eq] at h
 exact List.length_eq_zero_iff.mp h
theorem exK_cases {k : Int} {ks : List FNode} (h : exK k ks = true) :
  ((k = 1 ∨ k = 2 ∨ k = 3 ∨ k = 4) ∧ ks = []) ∨ (k = 5 ∧ ks.all itF = true) ∨ ((7 ≤ k ∧ k ≤ 14 ∨ 18 ≤ k ∧ k ≤ 22) ∧ ks.all exF = true ∧ (k = 7 → ks.length = 2)) ∨
  ((k = 15 ∨ k = 16) ∧ ks.all exF = true ∧ 1 ≤ ks.length) ∨ (k = 17 ∧ ks.length = 1 ∧ hd4 ks = true ∧ ks.all exF = true) ∨ (k = 23 ∧ usF true ks = true) := by
 unfold exK at h
 split at h
 ·next hk => exact .inl ⟨hk, len0 h⟩
 split at h
 ·next hk => exact .inr (.inl ⟨hk, h⟩)
 split at h
 ·exact zz139
 split at h
 ·next hk => rw [Bool.and_eq_true, beq_iff_eq] at h; exact .inr (.inr (.inl ⟨by omega, h.2, fun _ => h.1⟩))
 split at h
 ·exact zz139
 split at h
 ·next hk => rw [Bool.and_eq_true, Bool.and_eq_true, beq_iff_eq] at h; exact .inr (.inr (.inr (.inl ⟨hk, h.2.2, by omega⟩)))
 split at h
 ·next hk => rw [Bool.and_eq_true, Bool.and_eq_true, beq_iff_eq] at h; exact .inr (.inr (.inr (.inr (.inl ⟨hk, h.1, h.2.1, h.2.2⟩))))
 split at h
 ·next hk => exact .inr (.inr (.inl ⟨by omega, h, by omega⟩))
 split at h
 ·exact zz139
 split at h
 ·next hk => exact .inr (.inr (.inr (.inr (.inr ⟨hk, h⟩))))
 ·cases h
theorem ex_kd {x : FNode} (h : exF x = true) : 1 ≤ x.kd ∧ x.kd ≤ 23 := by
 rcases exK_cases (exK_of h) with ⟨h1, _⟩ | ⟨h1, _⟩ | ⟨h1, _⟩ | ⟨h1, _⟩ | ⟨h1, _⟩ | ⟨h1, _⟩ <;> omega
theorem it_kd {x : FNode} (h : itF x = true) : x.kd = 6 ∧ x.kids.all exF = true := by
 obtain ⟨k, n, t, ks⟩ := x
 rw [itF_mk] at h
 simp only [Bool.and_eq_true, beq_iff_eq] at h
 exact ⟨h.1, h.2.2.2.2⟩
theorem bl_st {x : FNode} (h : blF x = true) : stF x = true ∧ x.kd = 48 := by
 obtain ⟨k, n, t, ks⟩ := x
 have hk : k = 48 := by
  rw [blF_mk, Bool.and_eq_true, beq_iff_eq] at h
  exact h.1
 subst hk
 rw [blF_48]
 exact ⟨h, rfl⟩
theorem ct_kd {x : FNode} (h : ctF x = true) : x.kd = 44 ∧ ctK x.kids = true := by
 obtain ⟨k, n, t, ks⟩ := x
 rw [ctF_mk] at h
 simp only [Bool.and_eq_true, beq_iff_eq] at h
 exact ⟨h.1, h.2.2⟩
theorem fn_kd {x : FNode} (h : fnF x = true) : x.kd = 45 ∧ fnK x.kids = true := by
 obtain ⟨k, n, t, ks⟩ := x
 rw [fnF_mk] at h
 simp only [Bool.and_eq_true, beq_iff_eq] at h
 exact ⟨h.1, h.2.2⟩
theorem prm_mem (use : Bool) : ∀ (l : List FNode) (seen : Bool), prmF use seen l = true → ∀ y, y ∈ l → (y.kd = 24 ∨ y.kd = 25) ∧ y.kids = []
 | [], _, _, y, hy => absurd hy List.not_mem_nil
 | x :: r, seen, h, y, hy => by
  rw [prmF] at h
  simp only [Bool.and_eq_true, Bool.or_eq_true, beq_iff_eq, List.isEmpty_iff] at h
  obtain ⟨h1, h2, h3, h4, h5⟩ := h
  rcases List.mem_cons.mp hy with rfl | hy
  ·exact ⟨by rcases h1 with h1 | h1; exact .inl h1.1; exact .inr h1.1, h4⟩
  ·exact prm_mem use r _ h5 y hy
theorem us_mem {use : Bool} {l : List FNode} (h : usF use l = true) : ∀ y, y ∈ l → (stF y = true ∧ y.kd = 48) ∨ ((y.kd = 24 ∨ y.kd = 25) ∧ y.kids = []) := by
 intro y hy
 unfold usF at h
 rw [Bool.and_eq_true] at h
 obtain ⟨h1, h2⟩ := h
 cases hl : l.getLast? with
 | none => rw [hl] at h1; cases h1
 | some b =>
  rw [hl] at h1
  have hne : l ≠ [] := by intro e; rw [e] at hy; cases hy
  have e := List.dropLast_concat_getLast hne
  have hb : l.getLast hne = b := by rw [List.getLast?_eq_some_getLast hne] at hl; exact Option.some.inj hl
  rw [← e, List.mem_append] at hy
  rcases hy with hy | hy
  ·exact .inr (prm_mem use _ _ h2 y hy)
  ·rw [List.mem_singleton, hb] at hy
   rw [hy]
   exact .inl (bl_st h1)
theorem gd_us {use : Bool} {l : List FNode} (h : usF use l = true) : ∀ y, y ∈ l → gd y ∧ (y.kd = 48 ∨ y.kd = 24 ∨ y.kd = 25) := fun y hy => by
 rcases us_mem h y hy with ⟨h1, h2⟩ | ⟨h1, h2⟩
 ·exact ⟨.inr (.inr (.inl h1)), .inl h2⟩
 ·exact ⟨.inr (.inr (.inr (.inr (.inr (.inl ⟨by omega, h2⟩))))), .inr h1⟩
theorem ex4 {y : FNode} (h : exF y = true) : smT y = (y.kd == 4 && isTh y.tx) := by
 unfold smT
 by_cases h4 : y.kd = 4
 ·obtain ⟨k, n, t, ks⟩ := y
  have h4 : k = 4 := h4
  subst h4
  rw [exF_mk] at h
  simp only [Bool.and_eq_true] at h
  have hn : (n == 0) = true := h.1.1
  have hk : (ks.length == 0) = true := h.2
  show (true && (n == 0 && (isTh t && ks.length == 0))) = (true && isTh t)
  rw [hn, hk, Bool.true_and, Bool.true_and, Bool.and_true, Bool.true_and]
 ·rw [beq_false_of_ne h4, Bool.false_and, Bool.false_and]
theorem ex_root : ∀ x : FNode, exF x = true → exF (rootF x) = true ∧ rtOk x = true
 | .mk k n t ks, h => by
  by_cases e : k = 7
  ·subst e
   obtain ⟨h1, h2⟩ := ex_len7 h
   match ks, h1, h2 with
   | [a, b], _, h2 =>
    rw [rootF_7, rtOk_7]
    exact ex_root a (by simp at h2; exact h2.1)
  ·rw [rootF_o e]
   exact ⟨h, by unfold rtOk; exact if_neg e⟩
theorem hdR_eq {ks : List FNode} (h : ks.all exF = true) : hdRn ks = hdRs ks ∧ ∀ a r, ks = a :: r → rtOk a = true := by
 match ks, h with
 | [], _ => exact ⟨rfl, fun a r e => by cases e⟩
 | a :: r, h =>
  have ha : exF a = true := all_mem h a (List.mem_cons_self ..)
  obtain ⟨h1, h2⟩ := ex_root a ha
  exact ⟨(ex4 h1).symm, fun a' r' e => by cases e; exact h2⟩
theorem hd_eq {ks : List FNode} (h : ks.all exF = true) (h4 : hd4 ks = true) : hdTx ks = hdSm ks := by
 match ks, h, h4 with
 | a :: r, h, h4 =>
  have h5 : (a.kd == 4) = true := h4
  show isTh a.tx = smT a
  rw [ex4 (all_mem h a (List.mem_cons_self ..)), h5, Bool.true_and]
theorem th_plain {k : Int} (t : ByteArray) (ks : List FNode) (h : k ≠ 17 ∧ k ≠ 44 ∧ k ≠ 36 ∧ k ≠ 46 ∧ k ≠ 15 ∧ k ≠ 16 ∧ k ≠ 41) : thI k t ks = thS k t ks := by
 obtain ⟨h1, h2, h3, h4, h5, h6, h7⟩ := h
 unfold thI thS
 simp only [h1, h2, h3, h4, h5, h6, h7, or_self, ↓reduceIte]
theorem ndE_ex {k : Int} {t : ByteArray} {ks : List FNode} (h1 : thI k t ks = thS k t ks) (h : ∀ y, y ∈ ks → 1 ≤ y.kd ∧ y.kd ≤ 48 ∧ y.kd ≠ 24 ∧ y.kd ≠ 25) : ndE k t ks :=
 ⟨h1, fun h2 => (tw_false (fun y hy => ⟨(h y hy).2.2.1, (h y hy).2.2.2⟩) h2).elim,
  fun h2 => (tw_false (fun y hy => qbe) h2).elim,
  fun h2 => (tw_false (fun y hy => qbe) h2).elim,
  fun h2 => (tw_false (fun y hy => qbe) h2).elim⟩
theorem ndE_us {k : Int} {t : ByteArray} {ks : List FNode} (hk : isFn k = true) (h1 : thI k t ks = thS k t ks) (h : ∀ y, y ∈ ks → y.kd = 48 ∨ y.kd = 24 ∨ y.kd = 25) : ndE k t ks :=
 ⟨h1, fun _ => hk,
  fun h2 => (tw_false (fun y hy => qbe) h2).elim,
  fun h2 => (tw_false (fun y hy => qbe) h2).elim,
  fun h2 => (tw_false (fun y hy => qbe) h2).elim⟩
theorem ndK_o {k : Int} (ks : List FNode) (h : k ≠ 17 ∧ k ≠ 44 ∧ k ≠ 36 ∧ k ≠ 46 ∧ k ≠ 15 ∧ k ≠ 16 ∧ k ≠ 41) : ndK k ks := by
 obtain ⟨h1, h2, h3, h4, h5, h6, h7⟩ := h
 exact ⟨fun e => by omega, fun e => by omega, fun e => by omega⟩
theorem exs_kd {ks : List FNode} (h : ks.all exF = true) : ∀ y, y ∈ ks → 1 ≤ y.kd ∧ y.kd ≤ 48 ∧ y.kd ≠ 24 ∧ y.kd ≠ 25 := fun y hy => by
 have := ex_kd (all_mem h y hy)
 omega
theorem exs_gd {ks : List FNode} (h : ks.all exF = true) : ∀ y, y ∈ ks → gd y := fun y hy => .inl (all_mem h y hy)
theorem nd_ex {x : FNode} (h : exF x = true) : Nd x := by
 have hK := exK_cases (exK_of h)
 obtain ⟨k, n, t, ks⟩ := x
 unfold Nd
 simp only [FNode.kd, FNode.tx, FNode.kids] at *
 rcases hK with ⟨hk, rfl⟩ | ⟨rfl, ha⟩ | ⟨hk, ha, _⟩ | ⟨hk, ha, hl⟩ | ⟨rfl, hl, h4, ha⟩ | ⟨rfl, hu⟩
 ·exact ⟨fun y hy => absurd hy List.not_mem_nil, ndK_o _ qaa, ndE_ex (th_plain _ _ qaa) fun y hy => absurd hy List.not_mem_nil⟩
 ·exact ⟨fun y hy => .inr (.inl (all_mem ha y hy)), ndK_o _ qaa, ndE_ex (th_plain _ _ qaa) fun y hy => by have := (it_kd (all_mem ha y hy)).1; omega⟩
 ·exact ⟨exs_gd ha, ndK_o _ qaa, ndE_ex (th_plain _ _ qaa) (exs_kd ha)⟩
 ·obtain ⟨h1, h2⟩ := hdR_eq ha
  refine ⟨exs_gd ha, ⟨fun _ => hl, fun e => by omega, fun _ => h2⟩, ndE_ex ?_ (exs_kd ha)⟩
  rcases hk with rfl | rfl <;> exact h1
 ·refine ⟨exs_gd ha, ⟨fun _ => by omega, fun e => by omega, fun e => by omega⟩, ndE_ex ?_ (exs_kd ha)⟩
  show (isTh t || hdTx ks) = (isTh t || hdSm ks)
  rw [hd_eq ha h4]
 ·exact ⟨fun y hy => (gd_us hu y hy).1, ndK_o _ qaa, ndE_us rfl (th_plain _ _ qaa) fun y hy => (gd_us hu y hy).2⟩
end Go.Proofs.YtkkjnfappndmpaaGreatDoor
