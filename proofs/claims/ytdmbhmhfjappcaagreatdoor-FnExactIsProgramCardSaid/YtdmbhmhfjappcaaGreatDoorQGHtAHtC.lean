/-
  Parts of the proof: HtA, HtC. Conditions: none.
-/
import Derived.Test.YtdmbhmhfjappcaaGreatDoorQGBasePsV
namespace Go.Proofs.YtdmbhmhfjappcaaGreatDoor
set_option linter.unusedVariables false
/-- A code as far as heights go: its length, what an instruction needs, and where it goes on at a height, with what height. -/
structure HCode where
  n : Nat
  need : Nat → Int
  nxt : Nat → Int → List (Int × Int)
/-- Instruction i is reached at height h. -/
inductive HR (c : HCode) : Nat → Int → Prop
  | zero : HR c 0 0
  | step {i j : Nat} {h h' : Int} : HR c i h → ((j : Int), h') ∈ c.nxt i h → HR c j h'
/-- What must hold where an instruction is reached. -/
def HV (c : HCode) (mx : Int) (i : Nat) (h : Int) : Prop := c.need i ≤ h ∧ ∀ p, p ∈ c.nxt i h → 0 ≤ p.1 ∧ p.1 < (c.n : Int) ∧ 0 ≤ p.2 ∧ p.2 ≤ mx
/-- The right table. -/
def HGood (c : HCode) (mx : Int) (V : List Int) : Prop :=
  V.length = c.n ∧ V[0]? = some 0 ∧ (∀ (i : Nat) (h : Int), V[i]? = some h → -1 ≤ h) ∧
  ∀ (i : Nat) (h : Int), V[i]? = some h → 0 ≤ h → HR c i h ∧ HV c mx i h ∧ ∀ p, p ∈ c.nxt i h → V[p.1.toNat]? = some p.2
section
variable {c : HCode} {mx : Int} {V V' : List Int} {i : Nat} {h h' : Int}
theorem HGood.holds (g : HGood c mx V) (r : HR c i h) : V[i]? = some h ∧ 0 ≤ h := by
  induction r with
  | zero => exact ⟨g.2.1, Int.le_refl _⟩
  | @step i j h h' _ hp ih =>
    obtain ⟨_, hv, hn⟩ := g.2.2.2 i h ih.1 ih.2
    have h1 := hn _ hp
    have h2 := (hv.2 _ hp).2.2.1
    rw [Int.toNat_natCast] at h1
    exact ⟨h1, h2⟩
theorem HGood.unique (g : HGood c mx V) (g' : HGood c mx V') : V = V' := by
  refine List.ext_getElem? fun i => ?_
  by_cases hi : i < c.n
  · obtain ⟨h, hh⟩ : ∃ h, V[i]? = some h := ⟨_, List.getElem?_eq_getElem (by rw [g.1]; exact hi)⟩
    obtain ⟨h', hh'⟩ : ∃ h', V'[i]? = some h' := ⟨_, List.getElem?_eq_getElem (by rw [g'.1]; exact hi)⟩
    have l1 := g.2.2.1 i h hh
    have l2 := g'.2.2.1 i h' hh'
    by_cases e1 : 0 ≤ h
    · rw [hh, (g'.holds (g.2.2.2 i h hh e1).1).1]
    · by_cases e2 : 0 ≤ h'
      · have := (g.holds (g'.2.2.2 i h' hh' e2).1).1
        rw [hh] at this
        injection this with this
        omega
      · rw [hh, hh', show h = h' by omega]
  · rw [List.getElem?_eq_none (by rw [g.1]; omega), List.getElem?_eq_none (by rw [g'.1]; omega)]
theorem HGood.none_valid (r : HR c i h) (hv : ¬ HV c mx i h) : ¬ ∃ V, HGood c mx V := fun ⟨V, g⟩ => by
  obtain ⟨h1, h2⟩ := g.holds r
  exact hv (g.2.2.2 i h h1 h2).2.1
theorem HGood.none_two (r : HR c i h) (r' : HR c i h') (hne : h ≠ h') : ¬ ∃ V, HGood c mx V := fun ⟨V, g⟩ => by
  have h1 := (g.holds r).1
  have h2 := (g.holds r').1
  rw [h1] at h2
  injection h2 with h2
  exact hne h2
end
open Classical in
/-- The right table, if there is one. -/
noncomputable def HTab (c : HCode) (mx : Int) : Option (List Int) := if h : ∃ V, HGood c mx V then some (Classical.choose h) else none
theorem HTab_some {c : HCode} {mx : Int} {V : List Int} (g : HGood c mx V) : HTab c mx = some V := by
  unfold HTab
  rw [dif_pos ⟨V, g⟩, (Classical.choose_spec (⟨V, g⟩ : ∃ V, HGood c mx V)).unique g]
theorem HTab_none {c : HCode} {mx : Int} (h : ¬ ∃ V, HGood c mx V) : HTab c mx = none := by
  unfold HTab
  rw [dif_neg h]
end Go.Proofs.YtdmbhmhfjappcaaGreatDoor
namespace Go.Proofs.YtdmbhmhfjappcaaGreatDoor
set_option linter.unusedVariables false
set_option linter.unusedSimpArgs false
/-- A height is given to an index: the new table, or none. -/
def giveF (V : List Int) (at_ n : Int) : Option (List Int) :=
  if (V.length : Int) ≤ at_ ∨ n < 0 ∨ 500 < n ∨ (0 ≤ V.getD at_.toNat 0 ∧ V.getD at_.toNat 0 ≠ n) then none else some (V.set at_.toNat n)
/-- How many indexes have no height. -/
def nocnt (V : List Int) : Nat := V.countP (fun h => decide (h < 0))
theorem nocnt_le (V : List Int) : nocnt V ≤ V.length := List.countP_le_length
structure PInv (c : HCode) (V : List Int) : Prop where
  len : V.length = c.n
  zero : V[0]? = some 0
  low : ∀ (i : Nat) (h : Int), V[i]? = some h → -1 ≤ h ∧ h ≤ 500
  rch : ∀ (i : Nat) (h : Int), V[i]? = some h → 0 ≤ h → HR c i h
def Done (c : HCode) (V : List Int) (j : Nat) : Prop := ∀ h : Int, V[j]? = some h → 0 ≤ h → HV c 500 j h ∧ ∀ p, p ∈ c.nxt j h → V[p.1.toNat]? = some p.2
/-- What a table keeps of another. -/
def Ext (V V' : List Int) : Prop := V'.length = V.length ∧ ∀ (j : Nat) (h : Int), V[j]? = some h → 0 ≤ h → V'[j]? = some h
theorem Ext.refl (V : List Int) : Ext V V := ⟨rfl, fun _ _ h _ => h⟩
theorem Ext.trans {V V' V'' : List Int} (a : Ext V V') (b : Ext V' V'') : Ext V V'' := ⟨b.1.trans a.1, fun j h hj h0 => b.2 j h (a.2 j h hj h0) h0⟩
section
variable {c : HCode} {V V' : List Int} {i : Nat} {h at_ n : Int}
theorem PInv.start (hn : 0 < c.n) : PInv c (0 :: List.replicate (c.n - 1) (-1)) := by
  refine ⟨by simp; omega, rfl, ?_, ?_⟩
  · intro i h hi
    match i, hi with
    | 0, hi => obtain rfl : (0 : Int) = h := by simpa using hi
               omega
    | i + 1, hi =>
      rw [List.getElem?_cons_succ, List.getElem?_replicate] at hi
      split at hi
      · injection hi with hi; omega
      · cases hi
  · intro i h hi h0
    match i, hi with
    | 0, hi => obtain rfl : (0 : Int) = h := by simpa using hi
               exact .zero
    | i + 1, hi =>
      rw [List.getElem?_cons_succ, List.getElem?_replicate] at hi
      split at hi
      · injection hi with hi; omega
      · cases hi
/-- What a giving that is done leaves. -/
theorem giveF_some (p : PInv c V) (r : HR c i h) (hp : (at_, n) ∈ c.nxt i h) (ha : 0 ≤ at_) (g : giveF V at_ n = some V') :
    PInv c V' ∧ Ext V V' ∧ at_ < (c.n : Int) ∧ 0 ≤ n ∧ n ≤ 500 ∧ V'[at_.toNat]? = some n ∧ V' = V.set at_.toNat n ∧ (V.getD at_.toNat 0 < 0 → nocnt V' + 1 = nocnt V) ∧ (0 ≤ V.getD at_.toNat 0 → V' = V) := by
  unfold giveF at g
  split at g
  · cases g
  next hc =>
  injection g with g
  have h1 : at_.toNat < V.length := by have := p.len; omega
  have e1 : V[at_.toNat]? = some (V.getD at_.toNat 0) := by
    rw [List.getD_eq_getElem?_getD, List.getElem?_eq_getElem h1]; rfl
  have e2 : V.getD at_.toNat 0 = V[at_.toNat] := by
    rw [List.getD_eq_getElem?_getD, List.getElem?_eq_getElem h1]; rfl
  have h2 : 0 ≤ n ∧ n ≤ 500 := by omega
  have h3 : 0 ≤ V.getD at_.toNat 0 → V.getD at_.toNat 0 = n := fun h => by
    by_cases e : V.getD at_.toNat 0 = n
    · exact e
    · exact absurd (.inr (.inr (.inr ⟨h, e⟩))) hc
  have h4 : ∀ (j : Nat) (x : Int), V'[j]? = some x → (j = at_.toNat ∧ x = n) ∨ V[j]? = some x := by
    intro j x hx
    rw [← g, List.getElem?_set] at hx
    split at hx
    · next e => subst e; simp [h1] at hx; exact .inl ⟨rfl, hx.symm⟩
    · exact .inr hx
  have h5 : 0 ≤ V.getD at_.toNat 0 → V' = V := fun h => by
    have := h3 h
    rw [← g, ← this]
    refine List.ext_getElem? fun j => ?_
    rw [List.getElem?_set]
    split
    · next e => subst e; simp [h1]
    · rfl
  have hE : Ext V V' := by
    refine ⟨by rw [← g]; simp, fun j x hx h0 => ?_⟩
    rw [← g, List.getElem?_set]
    split
    · next e =>
      subst e
      rw [e1] at hx
      injection hx with hx
      have := h3 (by omega)
      simp [h1]
      omega
    · exact hx
  refine ⟨⟨by rw [hE.1]; exact p.len, hE.2 0 0 p.zero (Int.le_refl _), fun j x hx => ?_, fun j x hx h0 => ?_⟩, hE, by have := p.len; omega, h2.1, h2.2, by rw [← g]; simp [h1], g.symm, fun hneg => ?_, h5⟩
  · rcases h4 j x hx with ⟨_, e⟩ | e
    · omega
    · exact p.low j x e
  · rcases h4 j x hx with ⟨e, e2⟩ | e
    · subst e e2
      refine .step r ?_
      rw [Int.toNat_of_nonneg ha]
      exact hp
    · exact p.rch j x e h0
  · unfold nocnt
    rw [← g, List.countP_set h1]
    have hp1 : decide (V[at_.toNat] < 0) = true := by rw [← e2]; simpa using hneg
    have hp2 : decide (n < 0) = false := by simp; omega
    have hpos : 0 < V.countP (fun h => decide (h < 0)) := List.countP_pos_iff.2 ⟨_, List.getElem_mem h1, hp1⟩
    simp only [hp1, hp2, if_true]
    simp
    omega
theorem giveF_none (p : PInv c V) (r : HR c i h) (hp : (at_, n) ∈ c.nxt i h) (ha : 0 ≤ at_) (g : giveF V at_ n = none) : HTab c 500 = none := by
  unfold giveF at g
  split at g
  case isFalse => cases g
  next hc =>
  by_cases hb : at_ < (c.n : Int) ∧ 0 ≤ n ∧ n ≤ 500
  · have h1 : at_.toNat < V.length := by have := p.len; omega
    have e1 : V[at_.toNat]? = some (V.getD at_.toNat 0) := by
      rw [List.getD_eq_getElem?_getD, List.getElem?_eq_getElem h1]; rfl
    have h2 : 0 ≤ V.getD at_.toNat 0 ∧ V.getD at_.toNat 0 ≠ n := by
      have := p.len
      rcases hc with hc | hc | hc | hc
      · omega
      · omega
      · omega
      · exact hc
    refine HTab_none (HGood.none_two (p.rch _ _ e1 h2.1) (.step r ?_) h2.2)
    rw [Int.toNat_of_nonneg ha]
    exact hp
  · refine HTab_none (HGood.none_valid r fun hv => hb ?_)
    obtain ⟨_, x1, x2, x3⟩ := hv.2 _ hp
    exact ⟨x1, x2, x3⟩
theorem need_none (p : PInv c V) (hi : V[i]? = some h) (h0 : 0 ≤ h) (hn : h < c.need i) : HTab c 500 = none :=
  HTab_none (HGood.none_valid (p.rch _ _ hi h0) fun hv => by have := hv.1; omega)
theorem Done.ext {j : Nat} (d : Done c V j) (e : Ext V V') (hs : 0 ≤ V.getD j 0 ∨ V'[j]? = V[j]?) : Done c V' j := by
  intro x hx h0
  have hx' : V[j]? = some x := by
    rcases hs with hs | hs
    · by_cases hj : j < V.length
      · have e1 : V[j]? = some (V.getD j 0) := by
          rw [List.getD_eq_getElem?_getD, List.getElem?_eq_getElem hj]; rfl
        have := e.2 _ _ e1 hs
        rw [hx] at this
        rw [e1, ← this]
      · rw [List.getElem?_eq_none (by rw [e.1]; omega)] at hx
        cases hx
    · rw [← hs]; exact hx
  obtain ⟨d1, d2⟩ := d x hx' h0
  exact ⟨d1, fun p hp => e.2 _ _ (d2 p hp) (d1.2 p hp).2.2.1⟩
theorem PInv.good (p : PInv c V) (d : ∀ j, j < c.n → Done c V j) : HTab c 500 = some V := by
  refine HTab_some ⟨p.len, p.zero, fun i h hi => (p.low i h hi).1, fun i h hi h0 => ?_⟩
  have hlt : i < c.n := by
    have := (List.getElem?_eq_some_iff.1 hi).1
    rw [p.len] at this
    exact this
  obtain ⟨d1, d2⟩ := d i hlt h hi h0
  exact ⟨p.rch i h hi h0, d1, d2⟩
/-- The work list: every index that has a height and is not on it is done. -/
structure WInv (c : HCode) (V : List Int) (L : List Int) : Prop where
  inn : ∀ x, x ∈ L → 0 ≤ x ∧ x < (c.n : Int) ∧ 0 ≤ V.getD x.toNat 0
  out : ∀ j : Nat, j < c.n → 0 ≤ V.getD j 0 → (j : Int) ∈ L ∨ Done c V j
  few : L.length + nocnt V ≤ c.n
theorem getD_some {V : List Int} {i : Nat} (h : i < V.length) : V[i]? = some (V.getD i 0) := by
  rw [List.getD_eq_getElem?_getD, List.getElem?_eq_getElem h]; rfl
theorem getD_of {V : List Int} {i : Nat} {h : Int} (e : V[i]? = some h) : V.getD i 0 = h := by
  rw [List.getD_eq_getElem?_getD, e]; rfl
end
end Go.Proofs.YtdmbhmhfjappcaaGreatDoor
