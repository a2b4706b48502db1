/-
  Heights over a code, plain: what is reached, when a table of heights is the right one, that there is at most one, and when there is none. Conditions: none.
-/
import Derived.Test.YthkmfdjkldipjaaBase
namespace Go.Proofs.Ythkmfdjkldipjaa
set_option linter.unusedVariables false
/-- A code as far as heights go: its length, what an instruction needs, and where it goes on at a height, with what height. -/
structure HCode where
  n : Nat
  need : Nat → Int
  nxt : Nat → Int → List (Int × Int)
/-- Instruction i is reached at height h. -/
inductive HR (c : HCode) : Nat → Int → Prop
  | zero : HR c 0 0
  | step {i j : Nat} {h h' : Int} : HR c i h → ((j : Int), h') ∈ c.nxt i h → HR c j h'
/-- What must hold where an instruction is reached. -/
def HV (c : HCode) (mx : Int) (i : Nat) (h : Int) : Prop := c.need i ≤ h ∧ ∀ p, p ∈ c.nxt i h → 0 ≤ p.1 ∧ p.1 < (c.n : Int) ∧ 0 ≤ p.2 ∧ p.2 ≤ mx
/-- The right table. -/
def HGood (c : HCode) (mx : Int) (V : List Int) : Prop :=
  V.length = c.n ∧ V[0]? = some 0 ∧ (∀ (i : Nat) (h : Int), V[i]? = some h → -1 ≤ h) ∧
  ∀ (i : Nat) (h : Int), V[i]? = some h → 0 ≤ h → HR c i h ∧ HV c mx i h ∧ ∀ p, p ∈ c.nxt i h → V[p.1.toNat]? = some p.2
section
variable {c : HCode} {mx : Int} {V V' : List Int} {i : Nat} {h h' : Int}
theorem HGood.holds (g : HGood c mx V) (r : HR c i h) : V[i]? = some h ∧ 0 ≤ h := by
  induction r with
  | zero => exact ⟨g.2.1, Int.le_refl _⟩
  | @step i j h h' _ hp ih =>
    obtain ⟨_, hv, hn⟩ := g.2.2.2 i h ih.1 ih.2
    have h1 := hn _ hp
    have h2 := (hv.2 _ hp).2.2.1
    rw [Int.toNat_natCast] at h1
    exact ⟨h1, h2⟩
theorem HGood.unique (g : HGood c mx V) (g' : HGood c mx V') : V = V' := by
  refine List.ext_getElem? fun i => ?_
  by_cases hi : i < c.n
  · obtain ⟨h, hh⟩ : ∃ h, V[i]? = some h := ⟨_, List.getElem?_eq_getElem (by rw [g.1]; exact hi)⟩
    obtain ⟨h', hh'⟩ : ∃ h', V'[i]? = some h' := ⟨_, List.getElem?_eq_getElem (by rw [g'.1]; exact hi)⟩
    have l1 := g.2.2.1 i h hh
    have l2 := g'.2.2.1 i h' hh'
    by_cases e1 : 0 ≤ h
    · rw [hh, (g'.holds (g.2.2.2 i h hh e1).1).1]
    · by_cases e2 : 0 ≤ h'
      · have := (g.holds (g'.2.2.2 i h' hh' e2).1).1
        rw [hh] at this
        injection this with this
        omega
      · rw [hh, hh', show h = h' by omega]
  · rw [List.getElem?_eq_none (by rw [g.1]; omega), List.getElem?_eq_none (by rw [g'.1]; omega)]
theorem HGood.none_valid (r : HR c i h) (hv : ¬ HV c mx i h) : ¬ ∃ V, HGood c mx V := fun ⟨V, g⟩ => by
  obtain ⟨h1, h2⟩ := g.holds r
  exact hv (g.2.2.2 i h h1 h2).2.1
theorem HGood.none_two (r : HR c i h) (r' : HR c i h') (hne : h ≠ h') : ¬ ∃ V, HGood c mx V := fun ⟨V, g⟩ => by
  have h1 := (g.holds r).1
  have h2 := (g.holds r').1
  rw [h1] at h2
  injection h2 with h2
  exact hne h2
end
open Classical in
/-- The right table, if there is one. -/
noncomputable def HTab (c : HCode) (mx : Int) : Option (List Int) := if h : ∃ V, HGood c mx V then some (Classical.choose h) else none
theorem HTab_some {c : HCode} {mx : Int} {V : List Int} (g : HGood c mx V) : HTab c mx = some V := by
  unfold HTab
  rw [dif_pos ⟨V, g⟩, (Classical.choose_spec (⟨V, g⟩ : ∃ V, HGood c mx V)).unique g]
theorem HTab_none {c : HCode} {mx : Int} (h : ¬ ∃ V, HGood c mx V) : HTab c mx = none := by
  unfold HTab
  rw [dif_neg h]
end Go.Proofs.Ythkmfdjkldipjaa
