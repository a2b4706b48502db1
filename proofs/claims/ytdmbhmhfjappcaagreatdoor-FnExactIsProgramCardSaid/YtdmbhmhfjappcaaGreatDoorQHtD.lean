/-
  Parts of the proof: HtD. Conditions: none.
-/
import Derived.Test.YtdmbhmhfjappcaaGreatDoorQGHtAHtC
import Derived.Test.YtdmbhmhfjappcaaGreatDoorQIsIns0
import Derived.Test.YtdmbhmhfjappcaaGreatDoorQDataG
namespace Go.Proofs.YtdmbhmhfjappcaaGreatDoor
open Go.ChangeShapes Go.WideShapes Go.ChangeAt Go.RowKit Go.Deep Go.Joins
set_option linter.unusedVariables false
set_option linter.unusedSimpArgs false
def hnx (x : FIns) (i : Nat) (h : Int) : List (Int × Int) :=
  (if ifF x.a0 = true then [] else [((i : Int) + 1, wrap64 (h + changeF x.a0 x.a2))]) ++ (if htF x.a0 = true then [(x.a1, wrap64 (h + tcF x.a0))] else [])
def hC (l : List FIns) : HCode where
  n := l.length
  need := fun i => match l[i]? with
    | some x => needF x.a0 x.a2
    | none => 0
  nxt := fun i h => match l[i]? with
    | some x => hnx x i h
    | none => []
def insOk (x : FIns) (slots size : Int) : Bool := insF x.a0 x.a1 x.a2 x.a3 x.a4 slots size
noncomputable def htOf (l : List FIns) (slots : Nat) : Option (List Int) := if l.length = 0 ∨ l.all (fun x => insOk x slots l.length) = false then none else HTab (hC l) 500
noncomputable def htV (l : List FIns) (slots : Nat) : List Int := (htOf l slots).getD []
noncomputable def htB (l : List FIns) (slots : Nat) : Bool := (htOf l slots).isSome
section
variable {l : List FIns} {slots k : Nat} {x : FIns} {V V' : List Int} {L : List Int} {at_ n h : Int}
theorem hC_need (hx : l[k]? = some x) : (hC l).need k = needF x.a0 x.a2 := by
  show (match l[k]? with | some x => needF x.a0 x.a2 | none => 0) = _
  rw [hx]
theorem hC_nxt (hx : l[k]? = some x) (h : Int) : (hC l).nxt k h = hnx x k h := by
  show (match l[k]? with | some x => hnx x k h | none => []) = _
  rw [hx]
theorem nx_one (hx : l[k]? = some x) (hf : ifF x.a0 = false) : ((k : Int) + 1, wrap64 (h + changeF x.a0 x.a2)) ∈ (hC l).nxt k h := by
  rw [hC_nxt hx]; unfold hnx; rw [hf]; simp
theorem nx_two (hx : l[k]? = some x) (hf : htF x.a0 = true) : (x.a1, wrap64 (h + tcF x.a0)) ∈ (hC l).nxt k h := by
  rw [hC_nxt hx]; unfold hnx; rw [hf]; simp
theorem insF_tgt {op a b : Int} {s t : ByteArray} {slots size : Int} (h : insF op a b s t slots size = true) (ht : htF op = true) : 0 ≤ a ∧ a < size := by
  unfold insF at h
  simp only [Bool.and_eq_true] at h
  have h1 := h.2.1
  have h2 : op = 27 ∨ op = 28 ∨ op = 29 ∨ op = 44 ∨ op = 45 ∨ op = 49 ∨ op = 52 := by
    unfold htF at ht
    simp only [Bool.or_eq_true, beq_iff_eq] at ht
    omega
  unfold aOK at h1
  rcases h2 with rfl | rfl | rfl | rfl | rfl | rfl | rfl <;> simp [slotB, htF] at h1 <;> omega
theorem ht_bad0 : htOf ([] : List FIns) slots = none := if_pos (.inl rfl)
theorem ht_bad (hx : l[k]? = some x) (hb : insOk x slots l.length = false) : htOf l slots = none := by
  refine if_pos (.inr ?_)
  rw [List.all_eq_false]
  exact ⟨x, List.mem_of_getElem? hx, by rw [hb]; simp⟩
theorem ht_ok (h0 : l.length ≠ 0) (h : ∀ x, x ∈ l → insOk x slots l.length = true) : htOf l slots = HTab (hC l) 500 := by
  refine if_neg ?_
  rintro (e | e)
  · exact h0 e
  · rw [List.all_eq_true.2 h] at e
    cases e
theorem htV_none (h : htOf l slots = none) : htV l slots = [] ∧ htB l slots = false := by unfold htV htB; rw [h]; exact ⟨rfl, rfl⟩
theorem htV_some (h : htOf l slots = some V) : htV l slots = V ∧ htB l slots = true := by unfold htV htB; rw [h]; exact ⟨rfl, rfl⟩
/-- What an instruction asks of a height, once its givings are done. -/
theorem done_of (hx : l[k]? = some x) (hk : V[k]? = some h) (hn : needF x.a0 x.a2 ≤ h)
    (h1 : ifF x.a0 = false → (k : Int) + 1 < l.length ∧ 0 ≤ wrap64 (h + changeF x.a0 x.a2) ∧ wrap64 (h + changeF x.a0 x.a2) ≤ 500 ∧ V[k + 1]? = some (wrap64 (h + changeF x.a0 x.a2)))
    (h2 : htF x.a0 = true → 0 ≤ x.a1 ∧ x.a1 < l.length ∧ 0 ≤ wrap64 (h + tcF x.a0) ∧ wrap64 (h + tcF x.a0) ≤ 500 ∧ V[x.a1.toNat]? = some (wrap64 (h + tcF x.a0))) : Done (hC l) V k := by
  intro h' hk' h0
  rw [hk] at hk'
  injection hk' with hk'
  subst hk'
  have hm : ∀ p, p ∈ (hC l).nxt k h → (ifF x.a0 = false ∧ p = ((k : Int) + 1, wrap64 (h + changeF x.a0 x.a2))) ∨ (htF x.a0 = true ∧ p = (x.a1, wrap64 (h + tcF x.a0))) := by
    intro p hp
    rw [hC_nxt hx] at hp
    unfold hnx at hp
    rcases List.mem_append.1 hp with hp | hp
    · split at hp
      · cases hp
      · next hf => exact .inl ⟨by simpa using hf, List.mem_singleton.1 hp⟩
    · split at hp
      · next hf => exact .inr ⟨hf, List.mem_singleton.1 hp⟩
      · cases hp
  refine ⟨⟨by rw [hC_need hx]; exact hn, fun p hp => ?_⟩, fun p hp => ?_⟩
  · rcases hm p hp with ⟨hf, rfl⟩ | ⟨hf, rfl⟩
    · obtain ⟨a, b, c, d⟩ := h1 hf
      exact ⟨by show (0 : Int) ≤ (k : Int) + 1; omega, a, b, c⟩
    · obtain ⟨a, b, c, d, e⟩ := h2 hf
      exact ⟨a, b, c, d⟩
  · rcases hm p hp with ⟨hf, rfl⟩ | ⟨hf, rfl⟩
    · obtain ⟨a, b, c, d⟩ := h1 hf
      have e : ((k : Int) + 1).toNat = k + 1 := by omega
      show V[((k : Int) + 1).toNat]? = _
      rw [e]
      exact d
    · obtain ⟨a, b, c, d, e⟩ := h2 hf
      exact e
/-- The work list while an index that was taken off it is looked at. -/
structure WMid (c : HCode) (V : List Int) (L : List Int) (ex : Nat) : Prop where
  inn : ∀ x, x ∈ L → 0 ≤ x ∧ x < (c.n : Int) ∧ 0 ≤ V.getD x.toNat 0
  out : ∀ j : Nat, j < c.n → 0 ≤ V.getD j 0 → (j : Int) ∈ L ∨ j = ex ∨ Done c V j
  few : L.length + nocnt V + 1 ≤ c.n
theorem WInv.pop {c : HCode} {at_ : Int} (hw : WInv c V (L ++ [at_])) : WMid c V L at_.toNat := by
  refine ⟨fun x hx => hw.inn x (List.mem_append_left _ hx), fun j hj h0 => ?_, ?_⟩
  · rcases hw.out j hj h0 with h | h
    · rcases List.mem_append.1 h with h | h
      · exact .inl h
      · have := List.mem_singleton.1 h
        exact .inr (.inl (by omega))
    · exact .inr (.inr h)
  · have := hw.few
    rw [List.length_append] at this
    simp at this
    omega
theorem WMid.shut {c : HCode} {ex : Nat} (hw : WMid c V L ex) (hd : Done c V ex) : WInv c V L := by
  refine ⟨hw.inn, fun j hj h0 => ?_, by have := hw.few; omega⟩
  rcases hw.out j hj h0 with h | rfl | h
  · exact .inl h
  · exact .inr hd
  · exact .inr h
/-- The work list behind a giving. -/
def actL (V L : List Int) (at_ : Int) : List Int := if V.getD at_.toNat 0 < 0 then L ++ [at_] else L
theorem WMid.give {c : HCode} {ex : Nat} (p : PInv c V) (hw : WMid c V L ex) (r : HR c k h) (hp : (at_, n) ∈ c.nxt k h) (ha : 0 ≤ at_) (g : giveF V at_ n = some V') :
    WMid c V' (actL V L at_) ex ∧ 2 * nocnt V' + (actL V L at_).length ≤ 2 * nocnt V + L.length := by
  obtain ⟨p', e, h1, h2, h3, h4, h5, h6, h7⟩ := giveF_some p r hp ha g
  have hlen : V'.length = V.length := e.1
  unfold actL
  by_cases hf : V.getD at_.toNat 0 < 0
  · have h8 := h6 hf
    rw [if_pos hf]
    refine ⟨⟨fun x hx => ?_, fun j hj h0 => ?_, ?_⟩, ?_⟩
    · rcases List.mem_append.1 hx with hx | hx
      · obtain ⟨a, b, d⟩ := hw.inn x hx
        refine ⟨a, b, ?_⟩
        have hl : x.toNat < V.length := by have := p.len; omega
        rw [getD_of (e.2 _ _ (getD_some hl) d)]
        exact d
      · obtain rfl := List.mem_singleton.1 hx
        exact ⟨ha, h1, by rw [getD_of h4]; exact h2⟩
    · by_cases hj2 : j = at_.toNat
      · left
        refine List.mem_append_right _ (List.mem_singleton.2 ?_)
        omega
      · have e1 : V'[j]? = V[j]? := by
          rw [h5, List.getElem?_set]
          rw [if_neg (fun q => hj2 q.symm)]
        have e2 : V'.getD j 0 = V.getD j 0 := by
          rw [List.getD_eq_getElem?_getD, List.getD_eq_getElem?_getD, e1]
        rcases hw.out j hj (by rw [← e2]; exact h0) with q | q | q
        · exact .inl (List.mem_append_left _ q)
        · exact .inr (.inl q)
        · exact .inr (.inr (q.ext e (.inr e1)))
    · have := hw.few
      rw [List.length_append]
      simp
      omega
    · rw [List.length_append]
      simp
      omega
  · have h8 := h7 (by omega)
    rw [if_neg hf, h8]
    exact ⟨hw, Nat.le_refl _⟩
theorem WInv.start (hn : 0 < l.length) : WInv (hC l) (0 :: List.replicate (l.length - 1) (-1)) [0] := by
  refine ⟨fun x hx => ?_, fun j hj h0 => ?_, ?_⟩
  · obtain rfl := List.mem_singleton.1 hx
    exact ⟨Int.le_refl _, by show (0 : Int) < (l.length : Int); omega, by simp⟩
  · left
    match j, h0 with
    | 0, _ => simp
    | j + 1, h0 =>
      exfalso
      have hj' : j < l.length - 1 := by have : j + 1 < l.length := hj; omega
      have : (0 :: List.replicate (l.length - 1) (-1 : Int)).getD (j + 1) 0 = -1 := by
        refine getD_of ?_
        rw [List.getElem?_cons_succ, List.getElem?_replicate, if_pos hj']
      omega
  · unfold nocnt
    show 1 + _ ≤ l.length
    rw [List.countP_cons]
    have := List.countP_le_length (p := fun h : Int => decide (h < 0)) (l := List.replicate (l.length - 1) (-1 : Int))
    rw [List.length_replicate] at this
    simp
    omega
theorem WInv.good {c : HCode} (p : PInv c V) (hw : WInv c V []) : HTab c 500 = some V := by
  refine p.good fun j hj => ?_
  by_cases h0 : 0 ≤ V.getD j 0
  · rcases hw.out j hj h0 with h | h
    · cases h
    · exact h
  · intro h hh h1
    rw [getD_of hh] at h0
    omega
end
end Go.Proofs.YtdmbhmhfjappcaaGreatDoor
