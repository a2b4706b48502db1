/-
  An instruction that may stand in a code: it has a name, its numbers of operands fit together, it stays allowed in a longer code, its line begins with its name. Plain: no program in sight. Conditions: none.
-/
import Derived.Test.YtiggmjiodbbceaaDoorIsIns0
import Derived.Test.YtiggmjiodbbceaaDoorLnA
namespace Go.Proofs.YtiggmjiodbbceaaDoor
open Go.ChangeShapes Go.WideShapes Go.ChangeAt Go.RowKit Go.Deep Go.Joins
set_option linter.unusedVariables false
set_option linter.unusedSimpArgs false
set_option maxRecDepth 100000
/-- What the law asks of the numbers of operands. -/
structure Fits (op b : Int) : Prop where
  n0 : 0 ≤ needF op b
  n1 : needF op b ≤ 100
  c0 : -100 ≤ changeF op b
  c1 : changeF op b ≤ 100
  nc : 0 ≤ needF op b + changeF op b
  nt : htF op = true → 0 ≤ needF op b + tcF op
  nf : ifF op = true → needF op b + changeF op b = 0
instance (op b : Int) : Decidable (Fits op b) :=
  if h : 0 ≤ needF op b ∧ needF op b ≤ 100 ∧ -100 ≤ changeF op b ∧ changeF op b ≤ 100 ∧ 0 ≤ needF op b + changeF op b ∧ (htF op = true → 0 ≤ needF op b + tcF op) ∧ (ifF op = true → needF op b + changeF op b = 0) then
    .isTrue ⟨h.1, h.2.1, h.2.2.1, h.2.2.2.1, h.2.2.2.2.1, h.2.2.2.2.2.1, h.2.2.2.2.2.2⟩
  else .isFalse fun k => h ⟨k.n0, k.n1, k.c0, k.c1, k.nc, k.nt, k.nf⟩
theorem fits_all : ∀ (k : Fin 57) (b : Fin 101), 1 ≤ k.1 → bOK k.1 b.1 100 = true ∨ k.1 = 24 → Fits k.1 b.1 := by decide +kernel
theorem fits_24 (b : Int) : Fits 24 b := by
  refine ⟨?_, ?_, ?_, ?_, ?_, ?_, ?_⟩ <;> simp [needF, changeF, htF, ifF]
theorem bOK_range {op b slots : Int} (hop : 1 ≤ op ∧ op ≤ 56) (h24 : op ≠ 24) (h : bOK op b slots = true) : 0 ≤ b ∧ b ≤ 100 ∧ bOK op b 100 = true := by
  have e : bOK op b 100 = bOK op b slots := by unfold bOK; simp [h24]
  refine ⟨?_, ?_, e.trans h⟩ <;>
  · unfold bOK inB at h
    repeat' split at h
    all_goals first | omega | (simp at h; omega)
theorem fits_of {op b slots : Int} (hop : 1 ≤ op ∧ op ≤ 56) (h : bOK op b slots = true) : Fits op b := by
  by_cases h24 : op = 24
  · subst h24; exact fits_24 b
  · obtain ⟨b0, b1, hb⟩ := bOK_range hop h24 h
    obtain ⟨k, rfl⟩ : ∃ k : Nat, op = k := ⟨op.toNat, by omega⟩
    obtain ⟨m, rfl⟩ : ∃ m : Nat, b = m := ⟨b.toNat, by omega⟩
    exact fits_all ⟨k, by omega⟩ ⟨m, by omega⟩ (by show 1 ≤ k; omega) (.inl hb)
theorem insF_parts {op a b : Int} {s t : ByteArray} {slots size : Int} (h : insF op a b s t slots size = true) : (1 ≤ op ∧ op ≤ 56) ∧ aOK op a slots size = true ∧ bOK op b slots = true ∧ textOK op s = true ∧ tOK op t = true := by
  unfold insF at h
  simp only [Bool.and_eq_true] at h
  obtain ⟨h1, h2, h3, h4, h5⟩ := h
  exact ⟨by unfold inB at h1; simpa using h1, h2, h3, h4, h5⟩
theorem aOK_more {op a slots size : Int} (h : aOK op a slots size = true) : aOK op a (slots + 1) (size + 1) = true := by
  unfold aOK at h ⊢
  repeat' split at h
  all_goals simp_all
  all_goals omega
theorem bOK_more {op b slots : Int} (h : bOK op b slots = true) : bOK op b (slots + 1) = true := by
  unfold bOK at h ⊢
  repeat' split at h
  all_goals simp_all
  all_goals omega
theorem insF_more {op a b : Int} {s t : ByteArray} {slots size : Int} (h : insF op a b s t slots size = true) : insF op a b s t (slots + 1) (size + 1) = true := by
  obtain ⟨h1, h2, h3, h4, h5⟩ := insF_parts h
  unfold insF
  rw [aOK_more h2, bOK_more h3, h4, h5]
  unfold inB
  simpa using h1
theorem target_in {op a slots size : Int} (h : aOK op a slots size = true) (ht : htF op = true) : 0 ≤ a ∧ a < size := by
  have hx : op = 27 ∨ op = 28 ∨ op = 29 ∨ op = 44 ∨ op = 45 ∨ op = 49 ∨ op = 52 := by
    unfold htF at ht
    simp at ht
    omega
  rcases hx with rfl | rfl | rfl | rfl | rfl | rfl | rfl <;> simp [aOK, slotB, htF] at h <;> exact h
theorem name_some : ∀ k : Fin 56, (insWords.getD k.1 []).isEmpty = false := by decide +kernel
theorem insNm_ne {op : Int} (h : 1 ≤ op ∧ op ≤ 56) : (insNm op).toList.isEmpty = false := by
  have hk := name_some ⟨op.toNat - 1, by omega⟩
  unfold insNm
  rw [if_pos h]
  unfold insStr
  rw [ByteArray.toList_mk]
  exact hk
theorem ap_pre (c : Bool) (p l f q : ByteArray) (h : ∃ r, p.data.toList = q.data.toList ++ r) : ∃ r, (ap c p l f).data.toList = q.data.toList ++ r := by
  obtain ⟨r, hr⟩ := h
  cases c with
  | false => exact ⟨r, hr⟩
  | true =>
    refine ⟨r ++ l.data.toList ++ f.data.toList, ?_⟩
    show ((p ++ l) ++ f).data.toList = _
    rw [ByteArray.data_append, ByteArray.data_append, Array.toList_append, Array.toList_append, hr]
    simp [List.append_assoc]
theorem insLn_pre (op a b : Int) (s t : ByteArray) : ∃ r, (insLn op a b s t).data.toList = (insNm op).data.toList ++ r := by
  unfold insLn lnF
  exact ap_pre _ _ _ _ _ (ap_pre _ _ _ _ _ (ap_pre _ _ _ _ _ (ap_pre _ _ _ _ _ ⟨[], by simp⟩)))
theorem insLn_long (op a b : Int) (s t : ByteArray) : (insNm op).size ≤ (insLn op a b s t).size := by
  obtain ⟨r, hr⟩ := insLn_pre op a b s t
  have h := congrArg List.length hr
  rw [List.length_append] at h
  have e1 : (insLn op a b s t).data.toList.length = (insLn op a b s t).size := by simp
  have e2 : (insNm op).data.toList.length = (insNm op).size := by simp
  omega
theorem insLn_begin (op a b : Int) (s t : ByteArray) : (insLn op a b s t).extract 0 (insNm op).size = insNm op := by
  obtain ⟨r, hr⟩ := insLn_pre op a b s t
  apply ByteArray.ext
  rw [ByteArray.data_extract]
  apply Array.ext'
  rw [Array.toList_extract, hr, List.extract_eq_take_drop]
  have e2 : (insNm op).data.toList.length = (insNm op).size := by simp
  rw [Nat.sub_zero, List.drop_zero, ← e2, List.take_left]
end Go.Proofs.YtiggmjiodbbceaaDoor
