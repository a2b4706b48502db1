/-
  What IsKey, Weight, IsValue, IsPlain, AreVars answer, plain. Conditions: none.
-/
import Derived.Test.YtgbeenieacnanaaDoorPsP
import Derived.Test.YtgbeenieacnanaaDoorStr
import Derived.Test.YtgbeenieacnanaaDoorDataB
namespace Go.Proofs.YtgbeenieacnanaaDoor
set_option linter.unusedVariables false
set_option linter.unusedSimpArgs false
def emS (t : ByteArray) : Bool := t.toList.isEmpty
theorem emS_t {t : ByteArray} (h : t.toList = []) : emS t = true := by unfold emS; rw [h]; rfl
theorem emS_f {t : ByteArray} (h : ¬ t.toList = []) : emS t = false := by
  unfold emS
  cases e : t.toList with
  | nil => exact absurd e h
  | cons a r => rfl
theorem beqN_0 (m : Nat) : ((m : Int) == 0) = (m == 0) := by rw [Bool.eq_iff_iff]; simp
def kEq (a b : FKey) : Bool := a.a0 == b.a0 && a.a1 == b.a1 && a.a2.toList == b.a2.toList
theorem kEq_iff {a b : FKey} : kEq a b = true ↔ a = b := by
  obtain ⟨a0, a1, a2⟩ := a
  obtain ⟨b0, b1, b2⟩ := b
  unfold kEq
  simp only [Bool.and_eq_true, beq_iff_eq, FKey.mk.injEq]
  constructor
  · rintro ⟨⟨h1, h2⟩, h3⟩
    rw [ByteArray.toList_eq, ByteArray.toList_eq] at h3
    exact ⟨h1, h2, ByteArray.ext (Array.ext' h3)⟩
  · rintro ⟨h1, h2, h3⟩
    exact ⟨⟨h1, h2⟩, by rw [h3]⟩
def memK (S : List FKey) (a : FKey) : Bool := S.any fun b => kEq b a
theorem memK_iff {S : List FKey} {a : FKey} : memK S a = true ↔ a ∈ S := by
  unfold memK
  rw [List.any_eq_true]
  constructor
  · rintro ⟨b, hb, h⟩
    rw [kEq_iff] at h
    exact h ▸ hb
  · exact fun h => ⟨a, h, kEq_iff.2 rfl⟩
theorem memK_cons (S : List FKey) (b a : FKey) : memK (b :: S) a = (kEq b a || memK S a) := rfl
def keyF (a : FKey) : Bool := if a.a0 then a.a1 == 0 && decide (a.a2.size ≤ 400) && (psF a.a2).isNone else emS a.a2 && inB a.a1 (-1000000000) 1000000000
mutual
def wtF : FValue → Nat
  | .mk k _ _ _ l => if k == 4 then 1 + wtFs l else 1
def wtFs : List FEntry → Nat
  | [] => 0
  | .mk _ v :: r => wtF v + wtFs r
end
mutual
def plF : FValue → Bool
  | .mk k _ _ _ l => if k == 4 then plFs l else inB k 0 3
def plFs : List FEntry → Bool
  | [] => true
  | .mk _ v :: r => plF v && plFs r
end
/-- What a value that is no array needs. -/
def vH (k n : Int) (s : ByteArray) (x : Int) (m : Nat) : Bool := !(k != 3 && !emS s || (x != 0 || m != 0)) && (if k == 0 then n == 0 else if k == 1 then inB n 0 1 else if k == 2 then inB n (-1000000000) 1000000000 else if k == 3 then n == 0 && decide (s.size ≤ 400) else if k == 6 || k == 7 || k == 8 then inB n 0 255 else false)
mutual
def vF : FValue → Bool
  | .mk k n s x l => if k == 4 then emS s && n == 0 && inB x 0 1000000001 && vFs x [] l else vH k n s x l.length
def vFs (x : Int) (S : List FKey) : List FEntry → Bool
  | [] => true
  | .mk a v :: r => keyF a && !memK S a && !(!a.a0 && decide (x ≤ a.a1)) && vF v && vFs x (a :: S) r
end
/-- A value that may be kept. -/
def isV (v : FValue) : Bool := decide (wtF v ≤ 200) && vF v
def FEntry.key : FEntry → FKey
  | .mk a _ => a
def FEntry.vv : FEntry → FValue
  | .mk _ v => v
theorem vFs_cons (x : Int) (S : List FKey) (e : FEntry) (r : List FEntry) : vFs x S (e :: r) = (keyF e.key && !memK S e.key && !(!e.key.a0 && decide (x ≤ e.key.a1)) && vF e.vv && vFs x (e.key :: S) r) := by
  cases e; rw [vFs]; rfl
theorem plFs_cons (e : FEntry) (r : List FEntry) : plFs (e :: r) = (plF e.vv && plFs r) := by cases e; rw [plFs]; rfl
theorem wtFs_cons (e : FEntry) (r : List FEntry) : wtFs (e :: r) = wtF e.vv + wtFs r := by cases e; rw [wtFs]; rfl
theorem drop_of {l : List FEntry} {k : Nat} {e : FEntry} (h : l[k]? = some e) : l.drop k = e :: l.drop (k + 1) := by
  obtain ⟨hk, rfl⟩ := List.getElem?_eq_some_iff.1 h
  exact List.drop_eq_getElem_cons hk
/-- The keys of the first entries, the last ahead. -/
def ksF (l : List FEntry) (k : Nat) : List FKey := ((l.take k).map FEntry.key).reverse
theorem ksF_succ {l : List FEntry} {k : Nat} {e : FEntry} (h : l[k]? = some e) : ksF l (k + 1) = e.key :: ksF l k := by
  obtain ⟨hk, rfl⟩ := List.getElem?_eq_some_iff.1 h
  unfold ksF
  rw [List.take_succ_eq_append_getElem hk, List.map_append, List.reverse_append]
  rfl
theorem ksF_mem {l : List FEntry} {k : Nat} {a : FKey} : a ∈ ksF l k ↔ ∃ j e, j < k ∧ l[j]? = some e ∧ e.key = a := by
  unfold ksF
  rw [List.mem_reverse, List.mem_map]
  constructor
  · rintro ⟨e, he, rfl⟩
    obtain ⟨j, hj⟩ := List.mem_iff_getElem?.1 he
    rw [List.getElem?_take] at hj
    split at hj
    · exact ⟨j, e, by assumption, hj, rfl⟩
    · cases hj
  · rintro ⟨j, e, hj, he, rfl⟩
    exact ⟨e, List.mem_iff_getElem?.2 ⟨j, by rw [List.getElem?_take, if_pos hj]; exact he⟩, rfl⟩
/-- Where a key stands, from some index on; -1: nowhere. -/
def fkF (a : FKey) : Nat → List FEntry → Int
  | _, [] => -1
  | k, e :: r => if kEq e.key a then (k : Int) else fkF a (k + 1) r
theorem fkF_ge (a : FKey) : ∀ (l : List FEntry) (k : Nat), fkF a k l = -1 ∨ (k : Int) ≤ fkF a k l
  | [], k => .inl rfl
  | e :: r, k => by
    rw [fkF]
    split
    · exact .inr (by omega)
    · rcases fkF_ge a r (k + 1) with h | h
      · exact .inl h
      · exact .inr (by omega)
theorem fkF_no {a : FKey} : ∀ (l : List FEntry) (k : Nat), fkF a k l = -1 → ∀ e, e ∈ l → e.key ≠ a
  | [], k, _, e, he => by cases he
  | y :: r, k, h, e, he => by
    rw [fkF] at h
    split at h
    · omega
    · rename_i hn
      rcases List.mem_cons.1 he with rfl | he
      · exact fun hh => hn (kEq_iff.2 hh)
      · exact fkF_no r (k + 1) h e he
theorem fkF_yes {a : FKey} : ∀ (l : List FEntry) (k m : Nat), fkF a k l = m → ∃ e, l[m - k]? = some e ∧ e.key = a ∧ k ≤ m ∧ ∀ j e', j < m - k → l[j]? = some e' → e'.key ≠ a
  | [], k, m, h => by rw [fkF] at h; omega
  | y :: r, k, m, h => by
    rw [fkF] at h
    split at h
    · rename_i hy
      obtain rfl : k = m := by omega
      exact ⟨y, by simp, kEq_iff.1 hy, Nat.le_refl _, fun j e' hj => by omega⟩
    · rename_i hy
      obtain ⟨e, h1, h2, h3, h4⟩ := fkF_yes r (k + 1) m h
      refine ⟨e, ?_, h2, by omega, fun j e' hj he => ?_⟩
      · rw [show m - k = (m - (k + 1)) + 1 from by omega, List.getElem?_cons_succ]; exact h1
      · cases j with
        | zero =>
          have : y = e' := by simpa using he
          subst this
          exact fun hh => hy (kEq_iff.2 hh)
        | succ j => exact h4 j e' (by omega) (by simpa using he)
/-- The reference finds a key at its own index where it did not stand before. -/
theorem fkF_at {l : List FEntry} {k : Nat} {e : FEntry} (h : l[k]? = some e) : (fkF e.key 0 l = (k : Int)) ↔ memK (ksF l k) e.key = false := by
  constructor
  · intro hf
    obtain ⟨e1, h1, h2, h3, h4⟩ := fkF_yes l 0 k hf
    cases hm : memK (ksF l k) e.key with
    | false => rfl
    | true =>
      obtain ⟨j, e', hj, he', hk⟩ := ksF_mem.1 (memK_iff.1 hm)
      exact absurd hk (h4 j e' (by omega) he')
  · intro hm
    rcases fkF_ge e.key l 0 with hf | hf
    · exact absurd rfl (fkF_no l 0 hf e (List.mem_of_getElem? h))
    · obtain ⟨m, hm'⟩ : ∃ m : Nat, fkF e.key 0 l = m := ⟨(fkF e.key 0 l).toNat, by omega⟩
      obtain ⟨e1, h1, h2, h3, h4⟩ := fkF_yes l 0 m hm'
      rw [hm']
      have hge : ¬ m < k := fun hlt => by
        have : memK (ksF l k) e.key = true := memK_iff.2 (ksF_mem.2 ⟨m, e1, hlt, by simpa using h1, h2⟩)
        rw [hm] at this; cases this
      have hle : ¬ k < m := fun hlt => h4 k e (by omega) h rfl
      omega
mutual
theorem wtF_le : ∀ v : FValue, wtF v ≤ 1 + v.wt
  | .mk k n s x l => by
    rw [wtF, FValue.wt_eq]
    have := wtFs_le l
    split <;> omega
theorem wtFs_le : ∀ l : List FEntry, wtFs l ≤ l.length + FEntry.wts l
  | [] => by rw [wtFs]; simp
  | .mk a v :: r => by
    rw [wtFs, List.length_cons]
    have h1 := wtF_le v
    have h2 := wtFs_le r
    obtain ⟨a0, a1, a2⟩ := a
    obtain ⟨k, n, s, x, l⟩ := v
    rw [FValue.wt_eq] at h1
    have h3 : FEntry.wts (FEntry.mk ⟨a0, a1, a2⟩ ⟨k, n, s, x, l⟩ :: r) = FEntry.wt ⟨⟨a0, a1, a2⟩, ⟨k, n, s, x, l⟩⟩ + FEntry.wts r := by rw [FEntry.wts]
    rw [h3, FEntry.wt_eq]
    omega
end
theorem wtF_pos (v : FValue) : 1 ≤ wtF v := by
  cases v; rw [wtF]; split <;> omega
theorem wtFs_take {l : List FEntry} {k : Nat} {e : FEntry} (h : l[k]? = some e) : wtFs (l.take (k + 1)) = wtFs (l.take k) + wtF e.vv := by
  obtain ⟨hk, rfl⟩ := List.getElem?_eq_some_iff.1 h
  rw [List.take_succ_eq_append_getElem hk]
  have app : ∀ (a b : List FEntry), wtFs (a ++ b) = wtFs a + wtFs b := fun a b => by
    induction a with
    | nil => rw [List.nil_append, show wtFs [] = 0 from by rw [wtFs]]; omega
    | cons y r ih => rw [List.cons_append, wtFs_cons, wtFs_cons, ih]; omega
  rw [app, wtFs_cons, show wtFs [] = 0 from by rw [wtFs]]
  rfl
theorem wtFs_takele (l : List FEntry) (k : Nat) : wtFs (l.take k) ≤ wtFs l := by
  induction l generalizing k with
  | nil => simp
  | cons y r ih =>
    cases k with
    | zero => rw [List.take_zero, show wtFs [] = 0 from by rw [wtFs]]; omega
    | succ k => rw [List.take_succ_cons, wtFs_cons, wtFs_cons]; have := ih k; omega
end Go.Proofs.YtgbeenieacnanaaDoor
