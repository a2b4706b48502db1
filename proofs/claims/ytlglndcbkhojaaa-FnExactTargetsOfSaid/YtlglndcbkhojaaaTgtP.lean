/-
  The sorted and compacted list of the numbers below n that stand in a list is the list of the numbers below n that stand in it, in order. Plain. Conditions: none.
-/
import Derived.Test.YtlglndcbkhojaaaSortC
namespace Go.Proofs.Ytlglndcbkhojaaa
set_option linter.unusedVariables false
theorem pw_eq : ∀ (l1 l2 : List Int), l1.Pairwise (· < ·) → l2.Pairwise (· < ·) → (∀ x, x ∈ l1 ↔ x ∈ l2) → l1 = l2
  | [], [], _, _, _ => rfl
  | [], b :: r, _, _, h => by have := (h b).2 (by simp); cases this
  | a :: r, [], _, _, h => by have := (h a).1 (by simp); cases this
  | a :: r, b :: s, h1, h2, h => by
    rw [List.pairwise_cons] at h1 h2
    have hab : a = b := by
      rcases List.mem_cons.1 ((h a).1 (by simp)) with e | e
      · exact e
      · rcases List.mem_cons.1 ((h b).2 (by simp)) with e2 | e2
        · exact e2.symm
        · have x1 := h1.1 b e2
          have x2 := h2.1 a e
          omega
    subst hab
    rw [pw_eq r s h1.2 h2.2 fun x => ?_]
    constructor
    · intro hx
      have := h1.1 x hx
      rcases List.mem_cons.1 ((h x).1 (by simp [hx])) with e | e
      · omega
      · exact e
    · intro hx
      have := h2.1 x hx
      rcases List.mem_cons.1 ((h x).2 (by simp [hx])) with e | e
      · omega
      · exact e
theorem cpt_upto (d : Array Int) (hs : ∀ i j, i ≤ j → j < d.size → d[i]! ≤ d[j]!) : ∀ m, m ≤ d.size → (Lib.compactUpTo d m).Pairwise (· < ·) ∧ ∀ x, x ∈ Lib.compactUpTo d m ↔ ∃ j, j < m ∧ d[j]! = x
  | 0, _ => by simp [Lib.compactUpTo]
  | m + 1, hm => by
    obtain ⟨h1, h2⟩ := cpt_upto d hs m (by omega)
    rw [Lib.compactUpTo_succ]
    by_cases hk : Lib.keeps d m = true
    · rw [if_pos hk]
      refine ⟨?_, fun x => ?_⟩
      · rw [List.pairwise_append]
        refine ⟨h1, by simp, fun a ha b hb => ?_⟩
        obtain ⟨j, hj, e⟩ := (h2 a).1 ha
        have hb' : b = d[m]! := by simpa using hb
        subst hb' e
        have hne : d[m]! ≠ d[m - 1]! := by
          unfold Lib.keeps at hk
          simp at hk
          rcases hk with hk | hk
          · omega
          · exact hk
        have x1 := hs j (m - 1) (by omega) (by omega)
        have x2 := hs (m - 1) m (by omega) (by omega)
        omega
      · rw [List.mem_append, h2]
        constructor
        · rintro (⟨j, hj, e⟩ | e)
          · exact ⟨j, by omega, e⟩
          · exact ⟨m, by omega, (List.mem_singleton.1 e).symm⟩
        · rintro ⟨j, hj, e⟩
          by_cases ej : j = m
          · subst ej; right; simp [e]
          · left; exact ⟨j, by omega, e⟩
    · rw [if_neg hk, List.append_nil]
      refine ⟨h1, fun x => ?_⟩
      rw [h2]
      constructor
      · rintro ⟨j, hj, e⟩; exact ⟨j, by omega, e⟩
      · rintro ⟨j, hj, e⟩
        by_cases ej : j = m
        · subst ej
          have he : d[j]! = d[j - 1]! ∧ 0 < j := by
            unfold Lib.keeps at hk
            simp at hk
            exact ⟨hk.2, by omega⟩
          exact ⟨j - 1, by omega, by rw [← he.1]; exact e⟩
        · exact ⟨j, by omega, e⟩
theorem cpt_srt (l : List Int) : (Lib.compact (srt l)).Pairwise (· < ·) ∧ ∀ x, x ∈ Lib.compact (srt l) ↔ x ∈ l := by
  have hp : (srt l).Pairwise (fun a b => decide (a ≤ b) = true) := List.pairwise_mergeSort (fun a b c h1 h2 => by simp at h1 h2 ⊢; omega) (fun a b => by simp; omega) l
  have hs : ∀ i j, i ≤ j → j < (srt l).toArray.size → (srt l).toArray[i]! ≤ (srt l).toArray[j]! := by
    intro i j hij hj
    have hj' : j < (srt l).length := by simpa using hj
    have e1 : (srt l).toArray[i]! = (srt l)[i]'(by omega) := by simp [show i < (srt l).length by omega]
    have e2 : (srt l).toArray[j]! = (srt l)[j]'hj' := by simp [hj']
    rw [e1, e2]
    by_cases e : i = j
    · subst e; exact Int.le_refl _
    · have := List.pairwise_iff_getElem.1 hp i j (by omega) hj' (by omega)
      simpa using this
  obtain ⟨h1, h2⟩ := cpt_upto (srt l).toArray hs (srt l).length (by simp)
  refine ⟨h1, fun x => ?_⟩
  have h3 : x ∈ Lib.compact (srt l) ↔ ∃ j, j < (srt l).length ∧ (srt l).toArray[j]! = x := h2 x
  rw [h3]
  constructor
  · rintro ⟨j, hj, e⟩
    have : x ∈ srt l := by rw [← e]; simp [hj]
    exact List.mem_mergeSort.1 this
  · intro hx
    have hx' : x ∈ srt l := List.mem_mergeSort.2 hx
    obtain ⟨j, hj, e⟩ := List.mem_iff_getElem.1 hx'
    exact ⟨j, hj, by simp [hj, e]⟩
/-- The numbers below n that stand in a list, in order. -/
def below (l : List Int) (n : Nat) : List Int := ((List.range n).map (fun (i : Nat) => (i : Int))).filter (fun i => l.contains i)
theorem below_succ (l : List Int) (n : Nat) : below l (n + 1) = below l n ++ (if l.contains (n : Int) = true then [(n : Int)] else []) := by
  unfold below
  rw [List.range_succ, List.map_append, List.filter_append]
  simp only [List.map_cons, List.map_nil, List.filter_cons, List.filter_nil]
theorem below_len (l : List Int) (n : Nat) : (below l n).length ≤ n := by
  unfold below
  refine Nat.le_trans (List.length_filter_le _ _) ?_
  simp
theorem tgt_law (l : List Int) (n : Nat) (h : ∀ x, x ∈ l → 0 ≤ x ∧ x < n) : Lib.compact (srt l) = below l n := by
  obtain ⟨h1, h2⟩ := cpt_srt l
  refine pw_eq _ _ h1 ?_ fun x => ?_
  · unfold below
    refine List.Pairwise.filter _ ?_
    rw [List.pairwise_map]
    exact List.Pairwise.imp (fun h => by omega) List.pairwise_lt_range
  · rw [h2]
    unfold below
    rw [List.mem_filter, List.mem_map]
    constructor
    · intro hx
      have := h x hx
      exact ⟨⟨x.toNat, List.mem_range.2 (by omega), by omega⟩, by simpa using hx⟩
    · rintro ⟨_, hx⟩
      simpa using hx
end Go.Proofs.Ytlglndcbkhojaaa
