/-
 Parts of the proof: Reg, RegL. Conditions: none.
-/
import Derived.Test.YtkkjnfappndmpaaGreatDoorQFold
import Derived.Test.YtkkjnfappndmpaaGreatDoorQaa
import Derived.Deep.RegionHeld3
set_option linter.unusedVariables false
set_option linter.unusedSimpArgs false
namespace Go.Proofs.YtkkjnfappndmpaaGreatDoor
/-- What a step's value turns in the frame, as rules. -/
theorem aS : (∀ (a : Act) (d : Tmp) (v : Value), a.put (some d) v = { a with tmps := a.tmps.setIfInBounds d v }) ∧ (∀ (a : Act) (v : Value), a.put none v = a) ∧ (∀ (α : Type) (l : List α) (i : Nat) (x : α), l.toArray.setIfInBounds i x = (l.set i x).toArray) ∧ (∀ (α : Type) (x y : α) (l : List α), (x :: l).set 0 y = y :: l) ∧ (∀ (α : Type) (x y : α) (l : List α) (n : Nat), (x :: l).set (n + 1) y = x :: l.set n y) :=
 ⟨fun _ _ _ => rfl, fun _ _ => rfl, fun _ l i x => by simp, fun _ _ _ _ => rfl, fun _ _ _ _ _ => rfl⟩
section
variable {P : Program} {ops : Array Oper} {Q : Exit → Act → World → Prop} {md : Region.Mode} {S : World → Prop} {i fuel : Nat} {d : Tmp} {op : Op} {ty : TypeId} {pos : String} {af : Array Edge} {gd : Option (Nat × Bool)} {v : Value} {listed : Array Bool} {a : Act} {w : World}
theorem regTake (hi : ops[i]? = some ⟨some d, op, ty, pos, af, gd⟩) (hs : Region.noSelect ops = true) (hf : Region.free md ops listed i = true) (hr : (Region.ready md ops listed).contains i = true)
  (hQ : ∀ c a w, Q (.panic c) (a.put (some d) v) w → Q (.panic c) a w) (hw : Region.wanted ⟨some d, op, ty, pos, af, gd⟩ (yielded ops a.tmps) = true)
  (hy : ∀ w, S w → (execOp a.eval ⟨some d, op, ty, pos, af, gd⟩).run P w = .ok (.value v) w) (hS : S w) (h : wpAnyH P md ops Q S fuel (listed.setIfInBounds i true) (a.put (some d) v) w) :
  wpAnyH P md ops Q S (fuel + 1) listed a w := wpAnyH_take hi hs hf hr hQ (Or.inl ⟨hw, hy⟩) hS h
theorem regSkip (hi : ops[i]? = some ⟨some d, op, ty, pos, af, gd⟩) (hs : Region.noSelect ops = true) (hf : Region.free md ops listed i = true) (hr : (Region.ready md ops listed).contains i = true)
  (hQ : ∀ c a w, Q (.panic c) (a.put (some d) undef) w → Q (.panic c) a w) (hw : Region.wanted ⟨some d, op, ty, pos, af, gd⟩ (yielded ops a.tmps) = false)
  (hS : S w) (h : wpAnyH P md ops Q S fuel (listed.setIfInBounds i true) (a.put (some d) undef) w) :
  wpAnyH P md ops Q S (fuel + 1) listed a w := wpAnyH_take hi hs hf hr hQ (Or.inr ⟨hw, rfl⟩) hS h
theorem regCall (hr : Region.ready md ops listed = [i]) (hi : ops[i]? = some ⟨some d, op, ty, pos, af, gd⟩) (hw : Region.wanted ⟨some d, op, ty, pos, af, gd⟩ (yielded ops a.tmps) = true)
  (h : ∀ K' : Act → World → Prop, Shut (∀ a w, S w → (S w → wpAnyH P md ops Q S fuel (listed.setIfInBounds i true) a w) → K' a w) → Oper.wp P ⟨some d, op, ty, pos, af, gd⟩ a w K' Q) :
  wpAnyH P md ops Q S (fuel + 1) listed a w :=
 wpAnyH_ready hr qag (AllReadyH.cons hi (fun K hK => by rw [if_pos hw]; exact h K hK) AllReadyH.nil)
/-- The same two, at the first operation that is not listed. -/
theorem rgT (hn : listed.toList.findIdx? (!·) = some i) (hc : (Region.noSelect ops && Region.free md ops listed i && (Region.ready md ops listed).contains i) = true) (hi : ops[i]? = some ⟨some d, op, ty, pos, af, gd⟩)
  (hQ : ∀ c a w, Q (.panic c) (a.put (some d) v) w → Q (.panic c) a w) (hw : Region.wanted ⟨some d, op, ty, pos, af, gd⟩ (yielded ops a.tmps) = true)
  (hy : ∀ w, S w → (execOp a.eval ⟨some d, op, ty, pos, af, gd⟩).run P w = .ok (.value v) w) (hS : S w) (h : wpAnyH P md ops Q S fuel (listed.setIfInBounds i true) (a.put (some d) v) w) :
  wpAnyH P md ops Q S (fuel + 1) listed a w := by
 rw [Bool.and_eq_true, Bool.and_eq_true] at hc
 exact regTake hi hc.1.1 hc.1.2 hc.2 hQ hw hy hS h
theorem rgt (hn : listed.toList.findIdx? (!·) = some i) (hi : ops[i]? = some ⟨some d, op, ty, pos, af, gd⟩)
  (hy : ∀ w, S w → (execOp a.eval ⟨some d, op, ty, pos, af, gd⟩).run P w = .ok (.value v) w) (hS : S w) (h : wpAnyH P md ops Q S fuel (listed.setIfInBounds i true) (a.put (some d) v) w)
  (hc : (Region.noSelect ops && Region.free md ops listed i && (Region.ready md ops listed).contains i) = true := by kernel_rfl)
  (hQ : ∀ c a w, Q (.panic c) (a.put (some d) v) w → Q (.panic c) a w := by exact fun _ _ _ h => h) (hw : Region.wanted ⟨some d, op, ty, pos, af, gd⟩ (yielded ops a.tmps) = true := by rfl) :
  wpAnyH P md ops Q S (fuel + 1) listed a w := rgT hn hc hi hQ hw hy hS h
theorem rgS (hn : listed.toList.findIdx? (!·) = some i) (hc : (Region.noSelect ops && Region.free md ops listed i && (Region.ready md ops listed).contains i) = true) (hi : ops[i]? = some ⟨some d, op, ty, pos, af, gd⟩)
  (hQ : ∀ c a w, Q (.panic c) (a.put (some d) undef) w → Q (.panic c) a w) (hw : Region.wanted ⟨some d, op, ty, pos, af, gd⟩ (yielded ops a.tmps) = false)
  (hS : S w) (h : wpAnyH P md ops Q S fuel (listed.setIfInBounds i true) (a.put (some d) undef) w) :
  wpAnyH P md ops Q S (fuel + 1) listed a w := by
 rw [Bool.and_eq_true, Bool.and_eq_true] at hc
 exact regSkip hi hc.1.1 hc.1.2 hc.2 hQ hw hS h
end
section
variable {P : Program} {ops : Array Oper} {Q : Exit → Act → World → Prop} {md : Region.Mode} {S : World → Prop} {late : List Nat}
/-- Has a late operation come up? -/
def lateIn (late : List Nat) (l : Array Bool) : Bool := late.any fun j => l.getD j false
theorem lateIn_set {i : Nat} {l : Array Bool} (h : late.contains i = false) : lateIn late (l.setIfInBounds i true) = lateIn late l := by
 unfold lateIn
 rw [Bool.eq_iff_iff, List.any_eq_true, List.any_eq_true]
 have hne : ∀ j, j ∈ late → i ≠ j := fun j hj e => by
  subst e
  rw [List.contains_iff_mem.2 hj] at h
  cases h
 exact ⟨fun ⟨j, hj, e⟩ => ⟨j, hj, by rw [getD_set_ne false (hne j hj)] at e; exact e⟩, fun ⟨j, hj, e⟩ => ⟨j, hj, by rw [getD_set_ne false (hne j hj)]; exact e⟩⟩
/-- Whatever order is picked from here on; S is owed till a late operation has come up. -/
def wpAnyL (P : Program) (md : Region.Mode) (ops : Array Oper) (Q : Exit → Act → World → Prop) (S : World → Prop) (late : List Nat) : Nat → Array Bool → Act → World → Prop
 | 0, l, a, w => Region.ready md ops l = [] ∧ Q .normal a w
 | n + 1, l, a, w => (Region.ready md ops l = [] → Q .normal a w) ∧
   ∀ i ∈ Region.ready md ops l, wpOp P ops Q i (fun a' w' => (lateIn late (l.setIfInBounds i true) = false → S w') ∧ wpAnyL P md ops Q S late n (l.setIfInBounds i true) a' w') a w
theorem wpAnyL_any : ∀ (n : Nat) (l : Array Bool) (a : Act) (w : World), wpAnyL P md ops Q S late n l a w → wpAny P md ops Q n l a w
 | 0, _, _, _, h => h
 | n + 1, _, _, _, h => ⟨h.1, fun i hi => wpOp_mono (fun a' w' k => wpAnyL_any n _ a' w' k.2) (h.2 i hi)⟩
/-- Every late operation waits for i by itself. -/
def lateOK (md : Region.Mode) (ops : Array Oper) (late : List Nat) (i : Nat) : Bool :=
 late.all fun j => match ops[j]? with
  | some o => o.after.any fun e => Region.binds md e && e.on == i
  | none => true
theorem lateOK_spec {i j : Nat} {o : Oper} (h : lateOK md ops late i = true) (hj : late.contains j = true) (ho : ops[j]? = some o) : ∃ e ∈ o.after, Region.binds md e = true ∧ e.on = i := by
 unfold lateOK at h
 have h1 := List.all_eq_true.1 h j (by simpa using hj)
 rw [ho] at h1
 simp only [Array.any_eq_true, Bool.and_eq_true, beq_iff_eq] at h1
 obtain ⟨k, hk, hb, he⟩ := h1
 exact ⟨o.after[k], Array.getElem_mem hk, hb, he⟩
theorem wpAnyL_first {i : Nat} {oi : Oper} {v : Value} (hi : ops[i]? = some oi) (hsel : Region.noSelect ops = true) (hic : late.contains i = false) (hl : lateOK md ops late i = true) (hQ : ∀ c a w, Q (.panic c) (a.put oi.dst v) w → Q (.panic c) a w) :
  ∀ (n : Nat) (l : Array Bool) (a : Act) (w : World),
   (∀ j oj, ops[j]? = some oj → j ≠ i → l.getD j true = false → (∀ e ∈ oj.after, Region.binds md e = true → e.on ≠ i) → oi.apart ops oj = true) →
   i ∈ Region.ready md ops l → YieldsIf P ops S oi v a → lateIn late l = false → (lateIn late l = false → S w) →
   wpAnyL P md ops Q S late n (l.setIfInBounds i true) (a.put oi.dst v) w → wpAnyL P md ops Q S late (n + 1) l a w := by
 intro n
 induction n with
 | zero =>
  intro l a w _ hr hy hN hS H
  refine ⟨fun h => (by rw [h] at hr; cases hr), fun j hj => ?_⟩
  by_cases e : j = i
  ·subst e; exact hy.wpOp hi (hS hN) ⟨fun h => hS (by rwa [lateIn_set hic] at h), H⟩
  ·have := ready_mono hj e
   rw [H.1] at this
   cases this
 | succ n ih =>
  intro l a w hf hr hy hN hS H
  refine ⟨fun h => (by rw [h] at hr; cases hr), fun j hj => ?_⟩
  by_cases e : j = i
  ·subst e; exact hy.wpOp hi (hS hN) ⟨fun h => hS (by rwa [lateIn_set hic] at h), H⟩
  ·have h1 := H.2 j (ready_mono hj e)
   obtain ⟨hju, oj, hoj, hall⟩ := mem_ready.1 hj
   have hno : ∀ e ∈ oj.after, Region.binds md e = true → e.on ≠ i := fun e he hb hq => by
    have k1 := hall e he hb
    have k0 := (mem_ready.1 hr).1
    rw [hq] at k1
    rcases Nat.lt_or_ge i l.size with h' | h'
    ·simp [h'] at k0 k1; rw [k0] at k1; cases k1
    ·simp [Array.getElem?_eq_none h'] at k1
   have hjl : late.contains j = false := by
    cases hc : late.contains j with
    | false => rfl
    | true =>
     obtain ⟨e, he, hb, hq⟩ := lateOK_spec hl hc hoj
     exact absurd hq (hno e he hb)
   have h2 := wpOp_putIf hoj (hf j oj hoj e hju hno) (fun cs b => Region.noSelect_spec hsel i oi cs b hi) (fun cs b => Region.noSelect_spec hsel j oj cs b hoj) hQ hy h1
   have hf' : ∀ k ok, ops[k]? = some ok → k ≠ i → (l.setIfInBounds j true).getD k true = false → (∀ e ∈ ok.after, Region.binds md e = true → e.on ≠ i) → oi.apart ops ok = true := fun k ok hk hki hun hnn => by
    refine hf k ok hk hki ?_ hnn
    by_cases hjk : j = k
    ·subst hjk; exact hju
    ·rw [getD_set_ne true hjk] at hun; exact hun
   have hcm : lateIn late ((l.setIfInBounds i true).setIfInBounds j true) = lateIn late (l.setIfInBounds j true) := by rw [Array.setIfInBounds_comm _ _ (Ne.symm e), lateIn_set hic]
   refine wpOp_mono (fun a' w' k => ⟨fun h => k.2.1 (by rw [hcm]; exact h), ih (l.setIfInBounds j true) a' w' hf' (ready_mono hr (Ne.symm e)) k.1 (by rw [lateIn_set hjl]; exact hN) (fun h => k.2.1 (by rw [hcm]; exact h)) ?_⟩) h2
   rw [Array.setIfInBounds_comm _ _ e]
   exact k.2.2
theorem wpAnyL_firstW {i : Nat} {oi : Oper} {v : Value} (hi : ops[i]? = some oi) (hsel : Region.noSelect ops = true) (hic : late.contains i = false) (hQ : ∀ c a w, Q (.panic c) (a.put oi.dst v) w → Q (.panic c) a w) :
  ∀ (n : Nat) (l : Array Bool) (a : Act) (w : World),
   (∀ j oj, ops[j]? = some oj → j ≠ i → l.getD j true = false → (∀ e ∈ oj.after, Region.binds md e = true → e.on ≠ i) → oi.apart ops oj = true) →
   i ∈ Region.ready md ops l → YieldsIf P ops (fun _ => True) oi v a → (lateIn late l = false → S w) →
   wpAnyL P md ops Q S late n (l.setIfInBounds i true) (a.put oi.dst v) w → wpAnyL P md ops Q S late (n + 1) l a w := by
 intro n
 induction n with
 | zero =>
  intro l a w _ hr hy hS H
  refine ⟨fun h => (by rw [h] at hr; cases hr), fun j hj => ?_⟩
  by_cases e : j = i
  ·subst e; exact hy.wpOp hi trivial ⟨fun h => hS (by rwa [lateIn_set hic] at h), H⟩
  ·have := ready_mono hj e
   rw [H.1] at this
   cases this
 | succ n ih =>
  intro l a w hf hr hy hS H
  refine ⟨fun h => (by rw [h] at hr; cases hr), fun j hj => ?_⟩
  by_cases e : j = i
  ·subst e; exact hy.wpOp hi trivial ⟨fun h => hS (by rwa [lateIn_set hic] at h), H⟩
  ·have h1 := H.2 j (ready_mono hj e)
   obtain ⟨hju, oj, hoj, hall⟩ := mem_ready.1 hj
   have hno : ∀ e ∈ oj.after, Region.binds md e = true → e.on ≠ i := fun e he hb hq => by
    have k1 := hall e he hb
    have k0 := (mem_ready.1 hr).1
    rw [hq] at k1
    rcases Nat.lt_or_ge i l.size with h' | h'
    ·simp [h'] at k0 k1; rw [k0] at k1; cases k1
    ·simp [Array.getElem?_eq_none h'] at k1
   have h2 := wpOp_putIf hoj (hf j oj hoj e hju hno) (fun cs b => Region.noSelect_spec hsel i oi cs b hi) (fun cs b => Region.noSelect_spec hsel j oj cs b hoj) hQ hy h1
   have hf' : ∀ k ok, ops[k]? = some ok → k ≠ i → (l.setIfInBounds j true).getD k true = false → (∀ e ∈ ok.after, Region.binds md e = true → e.on ≠ i) → oi.apart ops ok = true := fun k ok hk hki hun hnn => by
    refine hf k ok hk hki ?_ hnn
    by_cases hjk : j = k
    ·subst hjk; exact hju
    ·rw [getD_set_ne true hjk] at hun; exact hun
   have hcm : lateIn late ((l.setIfInBounds i true).setIfInBounds j true) = lateIn late (l.setIfInBounds j true) := by rw [Array.setIfInBounds_comm _ _ (Ne.symm e), lateIn_set hic]
   refine wpOp_mono (fun a' w' k => ⟨fun h => k.2.1 (by rw [hcm]; exact h), ih (l.setIfInBounds j true) a' w' hf' (ready_mono hr (Ne.symm e)) k.1 (fun h => k.2.1 (by rw [hcm]; exact h)) ?_⟩) h2
   rw [Array.setIfInBounds_comm _ _ e]
   exact k.2.2
theorem lateStart {id : Nat} {a : Act} {w : World} (late : List Nat) (hm : P.follows .mixedOrders = true) (hS : S w.drew)
  (h : S w.drew → wpAnyL P .any ops Q S late ops.size (Array.replicate ops.size false) a w.drew) : (Code.region id ops true).wp P Q a w :=
 wp_region_any hm (wpAnyL_any _ _ _ _ (h hS))
theorem lateDone {l : Array Bool} {a : Act} {w : World} (hr : Region.ready md ops l = []) (h : Q .normal a w) : ∀ n, wpAnyL P md ops Q S late n l a w
 | 0 => ⟨hr, h⟩
 | _ + 1 => ⟨fun _ => h, by rw [hr]; simp⟩
variable {i j n : Nat} {d d' : Option Tmp} {op op' : Op} {ty ty' : TypeId} {pos pos' : String} {af af' : Array Edge} {gd gd' : Option (Nat × Bool)} {v : Value} {l : Array Bool} {a : Act} {w : World}
theorem lateTake (hi : ops[i]? = some ⟨d, op, ty, pos, af, gd⟩) (hs : Region.noSelect ops = true) (hic : late.contains i = false) (hl : lateOK md ops late i = true) (hN : lateIn late l = false) (hf : Region.free md ops l i = true) (hr : (Region.ready md ops l).contains i = true)
  (hQ : ∀ c a w, Q (.panic c) (a.put d v) w → Q (.panic c) a w) (hw : Region.wanted ⟨d, op, ty, pos, af, gd⟩ (yielded ops a.tmps) = true)
  (hy : ∀ w, S w → (execOp a.eval ⟨d, op, ty, pos, af, gd⟩).run P w = .ok (.value v) w) (hS : S w) (h : wpAnyL P md ops Q S late n (l.setIfInBounds i true) (a.put d v) w) :
  wpAnyL P md ops Q S late (n + 1) l a w :=
 wpAnyL_first hi hs hic hl hQ n l a w (Region.free_spec hi hf) (by simpa using hr) (Or.inl ⟨hw, hy⟩) hN (fun _ => hS) h
/-- What yields in whatever world needs no word on the late operations. -/
theorem lateTakeW (hi : ops[i]? = some ⟨d, op, ty, pos, af, gd⟩) (hs : Region.noSelect ops = true) (hic : late.contains i = false) (hf : Region.free md ops l i = true) (hr : (Region.ready md ops l).contains i = true)
  (hQ : ∀ c a w, Q (.panic c) (a.put d v) w → Q (.panic c) a w) (hw : Region.wanted ⟨d, op, ty, pos, af, gd⟩ (yielded ops a.tmps) = true)
  (hy : ∀ w : World, (execOp a.eval ⟨d, op, ty, pos, af, gd⟩).run P w = .ok (.value v) w) (hS : S w) (h : wpAnyL P md ops Q S late n (l.setIfInBounds i true) (a.put d v) w) :
  wpAnyL P md ops Q S late (n + 1) l a w :=
 wpAnyL_firstW hi hs hic hQ n l a w (Region.free_spec hi hf) (by simpa using hr) (Or.inl ⟨hw, fun w _ => hy w⟩) (fun _ => hS) h
/-- The two in short; and at the first operation that is not listed. -/
theorem lgT (hc : (Region.noSelect ops && !late.contains i && lateOK md ops late i && !lateIn late l && Region.free md ops l i && (Region.ready md ops l).contains i) = true) (hi : ops[i]? = some ⟨d, op, ty, pos, af, gd⟩)
  (hQ : ∀ c a w, Q (.panic c) (a.put d v) w → Q (.panic c) a w) (hw : Region.wanted ⟨d, op, ty, pos, af, gd⟩ (yielded ops a.tmps) = true)
  (hy : ∀ w, S w → (execOp a.eval ⟨d, op, ty, pos, af, gd⟩).run P w = .ok (.value v) w) (hS : S w) (h : wpAnyL P md ops Q S late n (l.setIfInBounds i true) (a.put d v) w) :
  wpAnyL P md ops Q S late (n + 1) l a w := by
 simp only [Bool.and_eq_true, Bool.not_eq_true'] at hc
 exact lateTake hi hc.1.1.1.1.1 hc.1.1.1.1.2 hc.1.1.1.2 hc.1.1.2 hc.1.2 hc.2 hQ hw hy hS h
theorem lgt (hi : ops[i]? = some ⟨d, op, ty, pos, af, gd⟩)
  (hy : ∀ w, S w → (execOp a.eval ⟨d, op, ty, pos, af, gd⟩).run P w = .ok (.value v) w) (hS : S w) (h : wpAnyL P md ops Q S late n (l.setIfInBounds i true) (a.put d v) w)
  (hc : (Region.noSelect ops && !late.contains i && lateOK md ops late i && !lateIn late l && Region.free md ops l i && (Region.ready md ops l).contains i) = true := by kernel_rfl)
  (hQ : ∀ c a w, Q (.panic c) (a.put d v) w → Q (.panic c) a w := by exact fun _ _ _ h => h) (hw : Region.wanted ⟨d, op, ty, pos, af, gd⟩ (yielded ops a.tmps) = true := by rfl) :
  wpAnyL P md ops Q S late (n + 1) l a w := lgT hc hi hQ hw hy hS h
theorem lgW (hc : (Region.noSelect ops && !late.contains i && Region.free md ops l i && (Region.ready md ops l).contains i) = true) (hi : ops[i]? = some ⟨d, op, ty, pos, af, gd⟩)
  (hQ : ∀ c a w, Q (.panic c) (a.put d v) w → Q (.panic c) a w) (hw : Region.wanted ⟨d, op, ty, pos, af, gd⟩ (yielded ops a.tmps) = true)
  (hy : ∀ w : World, (execOp a.eval ⟨d, op, ty, pos, af, gd⟩).run P w = .ok (.value v) w) (hS : S w) (h : wpAnyL P md ops Q S late n (l.setIfInBounds i true) (a.put d v) w) :
  wpAnyL P md ops Q S late (n + 1) l a w := by
 simp only [Bool.and_eq_true, Bool.not_eq_true'] at hc
 exact lateTakeW hi hc.1.1.1 hc.1.1.2 hc.1.2 hc.2 hQ hw hy hS h
theorem lateSkip (hi : ops[i]? = some ⟨d, op, ty, pos, af, gd⟩) (hs : Region.noSelect ops = true) (hic : late.contains i = false) (hf : Region.free md ops l i = true) (hr : (Region.ready md ops l).contains i = true)
  (hQ : ∀ c a w, Q (.panic c) (a.put d undef) w → Q (.panic c) a w) (hw : Region.wanted ⟨d, op, ty, pos, af, gd⟩ (yielded ops a.tmps) = false)
  (hS : S w) (h : wpAnyL P md ops Q S late n (l.setIfInBounds i true) (a.put d undef) w) :
  wpAnyL P md ops Q S late (n + 1) l a w :=
 wpAnyL_firstW hi hs hic hQ n l a w (Region.free_spec hi hf) (by simpa using hr) (Or.inr ⟨hw, rfl⟩) (fun _ => hS) h
theorem lateOp (hi : ops[i]? = some ⟨d, op, ty, pos, af, gd⟩) (hw : Region.wanted ⟨d, op, ty, pos, af, gd⟩ (yielded ops a.tmps) = true)
  (h : ∀ K' : Act → World → Prop, Shut (∀ a w, S w → (S w → wpAnyL P md ops Q S late n (l.setIfInBounds i true) a w) → K' a w) → Oper.wp P ⟨d, op, ty, pos, af, gd⟩ a w K' Q) :
  wpOp P ops Q i (fun a' w' => (lateIn late (l.setIfInBounds i true) = false → S w') ∧ wpAnyL P md ops Q S late n (l.setIfInBounds i true) a' w') a w :=
 wpOp_step hi fun K' hK => by rw [if_pos hw]; exact h K' (fun a w hS hW => hK a w ⟨fun _ => hS, hW hS⟩)
theorem lateLast (hi : ops[i]? = some ⟨d, op, ty, pos, af, gd⟩) (hc : lateIn late (l.setIfInBounds i true) = true) (hw : Region.wanted ⟨d, op, ty, pos, af, gd⟩ (yielded ops a.tmps) = true)
  (h : ∀ K' : Act → World → Prop, Shut (∀ a w, wpAnyL P md ops Q S late n (l.setIfInBounds i true) a w → K' a w) → Oper.wp P ⟨d, op, ty, pos, af, gd⟩ a w K' Q) :
  wpOp P ops Q i (fun a' w' => (lateIn late (l.setIfInBounds i true) = false → S w') ∧ wpAnyL P md ops Q S late n (l.setIfInBounds i true) a' w') a w :=
 wpOp_step hi fun K' hK => by rw [if_pos hw]; exact h K' (fun a w hW => hK a w ⟨fun h' => (by rw [hc] at h'; cases h'), hW⟩)
theorem lateOne (hr : Region.ready md ops l = [i]) (h : wpOp P ops Q i (fun a' w' => (lateIn late (l.setIfInBounds i true) = false → S w') ∧ wpAnyL P md ops Q S late n (l.setIfInBounds i true) a' w') a w) : wpAnyL P md ops Q S late (n + 1) l a w :=
 ⟨fun h0 => by rw [hr] at h0; (exact absurd h0 qag), fun k hk => by rw [hr] at hk; rw [List.mem_singleton.1 hk]; exact h⟩
end
end Go.Proofs.YtkkjnfappndmpaaGreatDoor
