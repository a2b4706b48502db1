/-
 Parts of the proof: ScR, ScY. Conditions: none.
-/
import Derived.Test.YtkkjnfappndmpaaGreatDoorQFold
import Derived.Test.YtkkjnfappndmpaaGreatDoorQah
import Derived.Test.YtkkjnfappndmpaaGreatDoorQap
import Derived.Test.YtkkjnfappndmpaaGreatDoorQbi
import Derived.Test.YtkkjnfappndmpaaGreatDoorQba
import Derived.Test.YtkkjnfappndmpaaGreatDoorQbo
set_option linter.unusedVariables false
set_option linter.unusedSimpArgs false
namespace Go.Proofs.YtkkjnfappndmpaaGreatDoor
open Go.ChangeShapes Go.WideShapes Go.ChangeAt Go.RowKit Go.Deep Go.Joins
theorem stK_cases {k : Int} {ks : List FNode} (h : stK k ks = true) :
  ((k = 31 ∨ k = 37 ∨ k = 38 ∨ k = 40 ∨ k = 47) ∧ ks = []) ∨ ((k = 32 ∨ k = 33 ∨ k = 42 ∨ k = 39) ∧ ks.all exF = true) ∨ (k = 41 ∧ ks.length = 1 ∧ ks.all exF = true) ∨ (k = 34 ∧ ifK ks = true) ∨ (k = 35 ∧ whK ks = true) ∨ (k = 36 ∧ feK ks = true) ∨
  (k = 46 ∧ ks.all exF = true ∧ (ks.length = 1 ∨ hd4 ks = true)) ∨ (k = 48 ∧ ks.all stF = true) ∨ (k = 43 ∧ tyK ks = true) := by
 unfold stK at h
 split at h
 ·next hk => exact .inl ⟨hk, len0 h⟩
 split at h
 ·next hk => rw [Bool.and_eq_true] at h; exact .inr (.inl ⟨by omega, h.2⟩)
 split at h
 ·next hk => rw [Bool.and_eq_true] at h; exact .inr (.inl ⟨by omega, h.2⟩)
 split at h
 ·next hk => rw [Bool.and_eq_true, Bool.and_eq_true, beq_iff_eq] at h; exact .inr (.inr (.inl ⟨hk, h.1, h.2.2⟩))
 split at h
 ·next hk => exact .inr (.inr (.inr (.inl ⟨hk, h⟩)))
 split at h
 ·next hk => exact .inr (.inr (.inr (.inr (.inl ⟨hk, h⟩))))
 split at h
 ·next hk => exact .inr (.inr (.inr (.inr (.inr (.inl ⟨hk, h⟩)))))
 split at h
 ·next hk => rw [Bool.and_eq_true, Bool.and_eq_true, Bool.or_eq_true, beq_iff_eq] at h; exact .inr (.inr (.inr (.inr (.inr (.inr (.inl ⟨hk, h.2.1, h.2.2⟩))))))
 split at h
 ·next hk => exact .inr (.inr (.inr (.inr (.inr (.inr (.inr (.inl ⟨hk, h⟩)))))))
 split at h
 ·next hk => exact .inr (.inr (.inr (.inr (.inr (.inr (.inr (.inr ⟨hk, h⟩)))))))
 ·cases h
theorem st_kd {x : FNode} (h : stF x = true) : 31 ≤ x.kd ∧ x.kd ≤ 48 := by
 rcases stK_cases (stK_of h) with ⟨h1, _⟩ | ⟨h1, _⟩ | ⟨h1, _⟩ | ⟨h1, _⟩ | ⟨h1, _⟩ | ⟨h1, _⟩ | ⟨h1, _⟩ | ⟨h1, _⟩ | ⟨h1, _⟩ <;> omega
/-- A kid of a statement. -/
def kidOk (y : FNode) : Prop := exF y = true ∨ stF y = true ∨ ctF y = true ∨ fnF y = true
theorem kidOk.bl {y : FNode} (h : blF y = true) : kidOk y := .inr (.inl (bl_st h).1)
theorem kidOk.gd {y : FNode} (h : kidOk y) : gd y := by
 rcases h with h | h | h | h
 ·exact .inl h
 ·exact .inr (.inr (.inl h))
 ·exact .inr (.inr (.inr (.inl h)))
 ·exact .inr (.inr (.inr (.inr (.inl h))))
theorem kidOk.kd {y : FNode} (h : kidOk y) : 1 ≤ y.kd ∧ y.kd ≤ 48 ∧ y.kd ≠ 24 ∧ y.kd ≠ 25 := by
 rcases h with h | h | h | h
 ·have := ex_kd h; omega
 ·have := st_kd h; omega
 ·have := (ct_kd h).1; omega
 ·have := (fn_kd h).1; omega
theorem if_mem {ks : List FNode} (h : ifK ks = true) : ∀ y, y ∈ ks → kidOk y := by
 match ks, h with
 | [a, b], h =>
  exact zz116
 | [a, b, d], h =>
  have h : (exF a && (blF b && blF d)) = true := h
  rw [Bool.and_eq_true, Bool.and_eq_true] at h
  intro y hy
  simp only [List.mem_cons, List.not_mem_nil, or_false] at hy
  rcases hy with rfl | rfl | rfl
  ·exact .inl h.1
  ·exact .bl h.2.1
  ·exact .bl h.2.2
 | [], h => cases h
 | [_], h => cases h
 | _ :: _ :: _ :: _ :: _, h => cases h
theorem wh_mem {ks : List FNode} (h : whK ks = true) : ∀ y, y ∈ ks → kidOk y := by
 match ks, h with
 | [a, b], h =>
  exact zz116
 | [], h => cases h
 | [_], h => cases h
 | _ :: _ :: _ :: _, h => cases h
theorem ty_mem {ks : List FNode} (h : tyK ks = true) : ∀ y, y ∈ ks → kidOk y := by
 match ks, h with
 | [a, b], h =>
  have h : (blF a && (ctF b || fnF b)) = true := h
  rw [Bool.and_eq_true, Bool.or_eq_true] at h
  intro y hy
  simp only [List.mem_cons, List.not_mem_nil, or_false] at hy
  rcases hy with rfl | rfl
  ·exact .bl h.1
  ·rcases h.2 with h2 | h2
   ·exact .inr (.inr (.inl h2))
   ·exact .inr (.inr (.inr h2))
 | [a, b, d], h =>
  have h : (blF a && (ctF b && fnF d)) = true := h
  rw [Bool.and_eq_true, Bool.and_eq_true] at h
  intro y hy
  simp only [List.mem_cons, List.not_mem_nil, or_false] at hy
  rcases hy with rfl | rfl | rfl
  ·exact .bl h.1
  ·exact .inr (.inr (.inl h.2.1))
  ·exact .inr (.inr (.inr h.2.2))
 | [], h => cases h
 | [_], h => cases h
 | _ :: _ :: _ :: _ :: _, h => cases h
theorem bl_any {d : FNode} (h : blF d = true) : (d.kd == 4 && isTh d.tx) = false := by
 rw [(bl_st h).2]
 rfl
theorem fe_mem {ks : List FNode} (t : ByteArray) (h : feK ks = true) : (∀ y, y ∈ ks → kidOk y) ∧ (ks.length = 3 ∨ ks.length = 4) ∧ thI 36 t ks = thS 36 t ks := by
 match ks, h with
 | [a, y, d], h =>
  have h : (exF a && (exF y && (y.kd == 4 && blF d))) = true := h
  simp only [Bool.and_eq_true] at h
  refine ⟨fun z hz => ?_, .inl rfl, ?_⟩
  ·simp only [List.mem_cons, List.not_mem_nil, or_false] at hz
   rcases hz with rfl | rfl | rfl
   ·exact .inl h.1
   ·exact .inl h.2.1
   ·exact .bl h.2.2.2
  ·show ((y.kd == 4 && isTh y.tx) || ((d.kd == 4 && isTh d.tx) || false)) = (smT y || (smT y && false))
   rw [bl_any h.2.2.2, ex4 h.2.1, Bool.and_false, Bool.or_false, Bool.or_false]
 | [a, y, z, e], h =>
  have h : (exF a && (exF y && (exF z && (y.kd == 4 && (z.kd == 4 && blF e))))) = true := h
  simp only [Bool.and_eq_true] at h
  refine ⟨fun q hq => ?_, .inr rfl, ?_⟩
  ·simp only [List.mem_cons, List.not_mem_nil, or_false] at hq
   rcases hq with rfl | rfl | rfl | rfl
   ·exact .inl h.1
   ·exact .inl h.2.1
   ·exact .inl h.2.2.1
   ·exact .bl h.2.2.2.2.2
  ·show ((y.kd == 4 && isTh y.tx) || ((z.kd == 4 && isTh z.tx) || ((e.kd == 4 && isTh e.tx) || false))) = (smT y || (smT z && true))
   rw [bl_any h.2.2.2.2.2, ex4 h.2.1, ex4 h.2.2.1, Bool.and_true, Bool.or_false, Bool.or_false]
 | [], h => cases h
 | [_], h => cases h
 | [_, _], h => cases h
 | _ :: _ :: _ :: _ :: _ :: _, h => cases h
theorem ex_kid {ks : List FNode} (h : ks.all exF = true) : ∀ y, y ∈ ks → kidOk y := fun y hy => .inl (all_mem h y hy)
theorem nd_kids {k : Int} {t : ByteArray} {ks : List FNode} (hm : ∀ y, y ∈ ks → kidOk y) (hK : ndK k ks) (hT : thI k t ks = thS k t ks) : (∀ y, y ∈ ks → gd y) ∧ ndK k ks ∧ ndE k t ks :=
 ⟨fun y hy => (hm y hy).gd, hK, ndE_ex hT fun y hy => (hm y hy).kd⟩
theorem nd_st {x : FNode} (h : stF x = true) : Nd x := by
 have hK := stK_cases (stK_of h)
 obtain ⟨k, n, t, ks⟩ := x
 unfold Nd
 simp only [FNode.kd, FNode.tx, FNode.kids] at *
 rcases hK with ⟨hk, rfl⟩ | ⟨hk, ha⟩ | ⟨rfl, hl, ha⟩ | ⟨rfl, hi⟩ | ⟨rfl, hi⟩ | ⟨rfl, hi⟩ | ⟨rfl, ha, h4⟩ | ⟨rfl, ha⟩ | ⟨rfl, hi⟩
 ·exact nd_kids (fun y hy => absurd hy List.not_mem_nil) (ndK_o _ qaa) (th_plain _ _ qaa)
 ·exact nd_kids (ex_kid ha) (ndK_o _ qaa) (th_plain _ _ qaa)
 ·obtain ⟨h1, h2⟩ := hdR_eq ha
  exact nd_kids (ex_kid ha) ⟨fun _ => by omega, fun e => by omega, fun _ => h2⟩ h1
 ·exact nd_kids (if_mem hi) (ndK_o _ qaa) (th_plain _ _ qaa)
 ·exact nd_kids (wh_mem hi) (ndK_o _ qaa) (th_plain _ _ qaa)
 ·obtain ⟨h1, h2, h3⟩ := fe_mem t hi
  exact nd_kids h1 ⟨fun e => by omega, fun _ => h2, fun e => by omega⟩ h3
 ·refine nd_kids (ex_kid ha) ⟨fun e => by omega, fun e => by omega, fun e => by omega⟩ ?_
  show (ks.length == 2 && hdTx ks) = (ks.length == 2 && hdSm ks)
  by_cases h2 : ks.length = 2
  ·rw [hd_eq ha (by rcases h4 with h4 | h4; omega; exact h4)]
  ·rw [beq_false_of_ne h2, Bool.false_and, Bool.false_and]
 ·exact nd_kids (fun y hy => .inr (.inl (all_mem ha y hy))) (ndK_o _ qaa) (th_plain _ _ qaa)
 ·exact nd_kids (ty_mem hi) (ndK_o _ qaa) (th_plain _ _ qaa)
theorem nd_it {x : FNode} (h : itF x = true) : Nd x := by
 obtain ⟨h1, h2⟩ := it_kd h
 obtain ⟨k, n, t, ks⟩ := x
 unfold Nd
 simp only [FNode.kd, FNode.tx, FNode.kids] at *
 exact nd_kids (ex_kid h2) (ndK_o _ qaa) (th_plain _ _ qaa)
theorem nd_ct {x : FNode} (h : ctF x = true) : Nd x := by
 obtain ⟨h1, h2⟩ := ct_kd h
 obtain ⟨k, n, t, ks⟩ := x
 unfold Nd
 simp only [FNode.kd, FNode.tx, FNode.kids] at *
 subst h1
 match ks, h2 with
 | [y, b], h2 =>
  have h2 : (y.kd == 4 && (exF y && blF b)) = true := h2
  simp only [Bool.and_eq_true] at h2
  refine nd_kids (fun z hz => ?_) ⟨fun _ => by simp, fun e => by omega, fun e => by omega⟩ ?_
  ·simp only [List.mem_cons, List.not_mem_nil, or_false] at hz
   rcases hz with rfl | rfl
   ·exact .inl h2.2.1
   ·exact .bl h2.2.2
  ·show isTh y.tx = smT y
   rw [ex4 h2.2.1, h2.1, Bool.true_and]
 | [], h2 => cases h2
 | [_], h2 => cases h2
 | _ :: _ :: _ :: _, h2 => cases h2
theorem nd_fn {x : FNode} (h : fnF x = true) : Nd x := by
 obtain ⟨h1, h2⟩ := fn_kd h
 obtain ⟨k, n, t, ks⟩ := x
 unfold Nd
 simp only [FNode.kd, FNode.tx, FNode.kids] at *
 subst h1
 match ks, h2 with
 | [b], h2 =>
  refine nd_kids (fun z hz => ?_) (ndK_o _ qaa) (th_plain _ _ qaa)
  rw [List.mem_singleton.mp hz]
  exact .bl h2
 | [], h2 => cases h2
 | _ :: _ :: _, h2 => cases h2
theorem cls_gd (cl : Bool) : ∀ (l : List FNode) (sg : Nat) (first : Bool), clsF cl sg first l = true → ∀ y, y ∈ l → gd y ∧ 52 ≤ y.kd ∧ y.kd ≤ 55
 | [], _, _, _, y, hy => absurd hy List.not_mem_nil
 | x :: r, sg, first, h, y, hy => by
  rw [clsF, Bool.and_eq_true] at h
  obtain ⟨_, h⟩ := h
  have key : (gd x ∧ 52 ≤ x.kd ∧ x.kd ≤ 55) ∧ ∃ sg' first', clsF cl sg' first' r = true := by
   by_cases e52 : x.kd = 52
   ·rw [if_pos e52] at h
    simp only [Bool.and_eq_true, List.isEmpty_iff] at h
    exact ⟨⟨.inr (.inr (.inr (.inr (.inr (.inl ⟨by omega, h.2.2.1⟩))))), by omega, by omega⟩, _, _, h.2.2.2.2⟩
   rw [if_neg e52] at h
   by_cases e53 : x.kd = 53
   ·rw [if_pos e53] at h
    simp only [Bool.and_eq_true, List.isEmpty_iff] at h
    exact ⟨⟨.inr (.inr (.inr (.inr (.inr (.inl ⟨by omega, h.1⟩))))), by omega, by omega⟩, _, _, h.2.2⟩
   rw [if_neg e53] at h
   by_cases e54 : x.kd = 54
   ·rw [if_pos e54, Bool.and_eq_true] at h
    obtain ⟨h1, h2⟩ := h
    refine ⟨⟨?_, by omega, by omega⟩, _, _, h2⟩
    match hk : x.kids with
    | [y] =>
     rw [hk] at h1
     have h3 : (inB y.kd 1 3 && exF y) = true := h1
     rw [Bool.and_eq_true] at h3
     exact .inr (.inr (.inr (.inr (.inr (.inr (.inr (.inr (.inl ⟨e54, y, hk, h3.2⟩))))))))
    | [] => rw [hk] at h1; cases h1
    | _ :: _ :: _ => rw [hk] at h1; cases h1
   rw [if_neg e54] at h
   by_cases e55 : x.kd = 55
   ·rw [if_pos e55, Bool.and_eq_true] at h
    exact ⟨⟨.inr (.inr (.inr (.inr (.inr (.inr (.inl ⟨.inr e55, h.1⟩)))))), by omega, by omega⟩, _, _, h.2⟩
   rw [if_neg e55] at h
   cases h
  rcases List.mem_cons.mp hy with rfl | hy
  ·exact key.1
  ·obtain ⟨sg', f', h2⟩ := key.2
   exact cls_gd cl r sg' f' h2 y hy
theorem top_mem {y : FNode} (h : topF y = true) : gd y ∧ y.kd ≠ 24 ∧ y.kd ≠ 25 ∧ y.kd ≠ 54 ∧ y.kd ≠ 55 := by
 unfold topF at h
 by_cases e49 : y.kd = 49
 ·rw [if_pos e49, Bool.and_eq_true] at h
  exact ⟨.inr (.inr (.inr (.inr (.inr (.inr (.inl ⟨.inl e49, h.2⟩)))))), by omega, by omega, by omega, by omega⟩
 rw [if_neg e49] at h
 by_cases e50 : y.kd = 50 ∨ y.kd = 51
 ·rw [if_pos e50, Bool.and_eq_true] at h
  exact ⟨.inr (.inr (.inr (.inr (.inr (.inr (.inr (.inl ⟨e50, _, _, h.2⟩))))))), by omega, by omega, by omega, by omega⟩
 rw [if_neg e50] at h
 have := st_kd h
 exact ⟨.inr (.inr (.inl h)), by omega, by omega, by omega, by omega⟩
theorem nd_gd {x : FNode} (h : gd x) : Nd x := by
 rcases h with h | h | h | h | h | ⟨hk, hn⟩ | ⟨hk, hu⟩ | ⟨hk, sg, f, hc⟩ | ⟨hk, y, hy, he⟩ | ⟨hk, ht⟩
 ·exact nd_ex h
 ·exact nd_it h
 ·exact nd_st h
 ·exact nd_ct h
 ·exact nd_fn h
 ·unfold Nd
  rw [hn]
  exact nd_kids (fun y hy => absurd hy List.not_mem_nil) (ndK_o _ qaa) (th_plain _ _ qaa)
 ·have hf : isFn x.kd = true := by rcases hk with hk | hk <;> rw [hk] <;> rfl
  exact ⟨fun y hy => (gd_us hu y hy).1, ndK_o _ qaa, ndE_us hf (th_plain _ _ qaa) fun y hy => (gd_us hu y hy).2⟩
 ·have hm := cls_gd _ _ _ _ hc
  exact ⟨fun y hy => (hm y hy).1, ndK_o _ qaa, th_plain _ _ qaa,
   fun h2 => (tw_false (fun y hy => (by have := hm y hy; exact ⟨by omega, by omega⟩)) h2).elim,
   fun h2 => (tw_false (fun y hy => (by have := hm y hy; exact ⟨by omega, by omega⟩)) h2).elim, fun _ => hk, fun _ => hk⟩
 ·unfold Nd
  rw [hy]
  refine nd_kids (fun z hz => ?_) (ndK_o _ qaa) (th_plain _ _ qaa)
  rw [List.mem_singleton.mp hz]
  exact .inl he
 ·have hm := all_mem ht
  exact ⟨fun y hy => (top_mem (hm y hy)).1, ndK_o _ qaa, th_plain _ _ qaa,
   fun h2 => (tw_false (fun y hy => ⟨(top_mem (hm y hy)).2.1, (top_mem (hm y hy)).2.2.1⟩) h2).elim, fun _ => hk,
   fun h2 => (tw_false (fun y hy => ⟨(top_mem (hm y hy)).2.2.2.1, (top_mem (hm y hy)).2.2.2.1⟩) h2).elim,
   fun h2 => (tw_false (fun y hy => ⟨(top_mem (hm y hy)).2.2.2.2, (top_mem (hm y hy)).2.2.2.2⟩) h2).elim⟩
mutual
theorem tk_gd : ∀ x : FNode, gd x → tkN x
 | .mk k n t ks, h => by
  have hn := nd_gd h
  rw [tkN]
  exact ⟨hn.2.1, tkL_gd ks hn.1⟩
theorem tkL_gd : ∀ l : List FNode, (∀ y, y ∈ l → gd y) → tkL l
 | [], _ => by rw [tkL]; trivial
 | x :: r, h => by
  rw [tkL]
  exact ⟨tk_gd x (h x (List.mem_cons_self ..)), tkL_gd r fun y hy => h y (List.mem_cons_of_mem _ hy)⟩
end
mutual
theorem br_gd (r : Nat) : ∀ (x : FNode) (lp ins : Bool), gd x → brI r lp ins x = brS r lp ins x
 | .mk k n t ks, lp, ins, h => by
  have hn := nd_gd h
  rw [brI, brS, show bdI r lp ins k t ks = bdS r lp ins k t ks from bd_eq hn.2.2 r lp ins, brL_gd r ks _ _ hn.1]
theorem brL_gd (r : Nat) : ∀ (l : List FNode) (lp ins : Bool), (∀ y, y ∈ l → gd y) → brIL r lp ins l = brSL r lp ins l
 | [], _, _, _ => rfl
 | x :: l, lp, ins, h => by
  rw [brIL, brSL, br_gd r x lp ins (h x (List.mem_cons_self ..)), brL_gd r l lp ins fun y hy => h y (List.mem_cons_of_mem _ hy)]
end
theorem sc_gd {x : FNode} (h : scF x = true) : gd x := by
 unfold scF at h
 simp only [Bool.and_eq_true, beq_iff_eq] at h
 exact .inr (.inr (.inr (.inr (.inr (.inr (.inr (.inr (.inr ⟨h.2.1, h.2.2.2.2⟩))))))))
theorem cs_eq (x : FNode) : csI x = csS x := by
 unfold csI csS
 by_cases h : scF x = true
 ·rw [if_pos h, if_pos h]
  congr 1
  funext r
  exact br_gd r x false false (sc_gd h)
 ·rw [if_neg h, if_neg h]
theorem tk_sc (x : FNode) (h : scF x = true) : tkN x := tk_gd x (sc_gd h)
set_option maxHeartbeats 40000000
open Lib (hid)
open Go.ChangeMaps (open_string shut_string)
set_option maxRecDepth 100000
theorem brS_all (r : Nat) (hr1 : 1 ≤ r) (hr5 : r ≤ 5) : ∀ (N : Nat) (x : FNode), szN x ≤ N → x.wt ≤ 1000000000 → tkN x → BrS r x
 | 0, x, h, _, _ => absurd (szN_pos x) qaa
 | N + 1, ⟨k, z1, z2, z3⟩, h, hw, ht => by
  rw [tkN] at ht
  exact brS_of r hr1 hr5 k z1 z2 z3 hw ht.1 fun y hy => brS_all r hr1 hr5 N y qau (by have := (kid_wt (x := ⟨k, z1, z2, z3⟩) (y := y) hy).1; omega) (tkL_mem z3 ht.2 y hy)
theorem check_spec (x : FNode) (hw : x.wt ≤ 1000000000) (us : List Value) (w : World) (B : Nat) (hB0 : B ≤ w.heap.size) (hr : RdVs w B x.c us) :
  Calls Tryz.prog 16 #[.agg us.toArray] w fun e w' => e = .returned (.int .i64 (csS x)) ∧ Below w.heap.size w w' := by
 have HSC := hid (script_spec x hw)
 have HBR := hid (fun (h : scF x = true) r h1 h5 => brS_all r h1 h5 _ x nr hw (tk_sc x h))
 have EX := hid (show csS x = if scF x = true then csF (fun r => brS r false false x) else 5 from rfl)
 obtain ⟨z0, z1, z2, z3⟩ := x
 obtain ⟨A3, c3, rfl, r3⟩ := hr.node
 rw [FNode.wt_eq] at hw
 have hz : z2.size ≤ 9223372036854775807 := qaa
 have hl : z3.length ≤ 9223372036854775807 := qaa
 have HR := hid r3
 have HB := hbA w z0 z1 z2 (.slice A3 z3.length c3)
 have CALL := hid (HSC.out [.int .i64 z0, .int .i64 z1, .string z2, .slice A3 z3.length c3] _ w.heap.size HB.out.size (ndV ((HR.out.up hB0).below HB.out nr)))
 clear hr r3 hw HSC
 cases hs : scF ⟨z0, z1, z2, z3⟩ with
 | false =>
  rw [hs] at CALL EX
  go_enter Tryz.func16, Tryz.ntmps16
  go_wp2_with (go_at_call 33; refine CALL.out.mono ?_; rintro e w3 ⟨rfl, hb3⟩; have HB3 := hid (HB.out.trans (hb3.mono HB.out.size)))
  go_ret
  exact ⟨by rw [EX.out]; rfl, HB3.out⟩
 | true =>
  rw [hs, if_pos rfl] at EX
  rw [hs] at CALL
  have HBR := hid (HBR.out hs)
  obtain ⟨F, hF⟩ : ∃ F : Nat → Bool, (fun r => brS r false false ⟨z0, z1, z2, z3⟩) = F := ⟨_, rfl⟩
  rw [hF] at EX
  have HFF := hid (show ∀ r, brS r false false ⟨z0, z1, z2, z3⟩ = F r from fun r => by rw [← hF])
  clear hF
  go_enter Tryz.func16, Tryz.ntmps16
  go_wp2_with (go_at_call 33; refine CALL.out.mono ?_; rintro e w3 ⟨rfl, hb3⟩; have HB3 := hid (HB.out.trans (hb3.mono HB.out.size)); have ⟨bx_0, bx_1, bx_2, bx_3⟩ := box4 hb3)
  have HX0 : BkS2 w z0 z1 z2 A3 z3.length c3 w3 := ⟨HB3.out, bx_0, bx_1, bx_2, bx_3, Nat.lt_of_lt_of_le qag hb3.size⟩
  clear bx_0 bx_1 bx_2 bx_3
  go_loopw [3] (fun i wr => ∃ k : Nat, 1 ≤ k ∧ k ≤ 6 ∧ i = .int .i64 k ∧ Hid (∀ j, 1 ≤ j → j < k → F j = false) ∧ BkS2 w z0 z1 z2 A3 z3.length c3 wr) (fun i _ => 6 - (intOf i).toNat)
  case atStart => exact ⟨1, by decide, by decide, rfl, hid (fun j h1 h2 => absurd h2 qaa), HX0⟩
  case round =>
   clear HX0
   obtain ⟨k, hk1, hk6, rfl, HA, HX⟩ := hrel
   have b0 := HX.2.1
   have b1 := HX.2.2.1
   have b2 := HX.2.2.2.1
   have b3 := HX.2.2.2.2.1
   have hlt0 := HX.2.2.2.2.2
   by_cases hk5 : k ≤ 5
   ·have CK := hid (HBR.out k hk1 hk5 [.int .i64 z0, .int .i64 z1, .string z2, .slice A3 z3.length c3] wr w.heap.size false false HX.1.size (ndV ((HR.out.up hB0).below HX.1 nr)))
    rw [HFF.out k] at CK
    cases hv : F k with
    | true =>
     rw [hv] at CK
     have HF := hid (csF_hit F k hk1 hk5 HA.out hv)
     go_wp2_with (go_at_call 34; refine CK.out.mono ?_; rintro e w5 ⟨rfl, hb5⟩)
     go_ret
     exact ⟨by rw [EX.out, HF.out]; rfl, (HX.call hb5).1⟩
    | false =>
     rw [hv] at CK
     have HV := hid hv
     clear hv
     go_wp2_with (go_at_call 34; refine CK.out.mono ?_; rintro e w5 ⟨rfl, hb5⟩)
     go_roundw
     case rel => exact ⟨k + 1, by omega, by omega, by go_num, hid (fun j h1 h2 => by rcases Nat.lt_succ_iff_lt_or_eq.mp h2 with h | h; exact HA.out j h1 h; rw [h]; exact HV.out), HX.call hb5⟩
     case measure => simp [intOf]; omega
   ·obtain rfl : k = 6 := qaa
    have HF := hid (csF_none F HA.out)
    go_wp2_with fail
    go_ret
    exact ⟨by rw [EX.out, HF.out]; rfl, HX.1⟩
end Go.Proofs.YtkkjnfappndmpaaGreatDoor
