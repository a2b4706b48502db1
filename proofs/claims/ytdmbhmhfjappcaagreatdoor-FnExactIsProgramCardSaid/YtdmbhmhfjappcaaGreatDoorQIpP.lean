/-
  Parts of the proof: IpP. Conditions: none.
-/
import Derived.Test.YtdmbhmhfjappcaaGreatDoorQGSeenIfA
import Derived.Test.YtdmbhmhfjappcaaGreatDoorQGPsPIvP
import Derived.Test.YtdmbhmhfjappcaaGreatDoorQGFindFindF
namespace Go.Proofs.YtdmbhmhfjappcaaGreatDoor
set_option linter.unusedVariables false
set_option linter.unusedSimpArgs false
noncomputable def ifuV : FFunc → Bool
  | ⟨z0, z1, z2, z3, z4, z5⟩ => ifuF z0 z1 z2 z3 z4 z5
def FFunc.usn : FFunc → Nat
  | ⟨_, _, u, _, _, _⟩ => u.length
def errL : List UInt8 := [69, 114, 114, 111, 114]
def msgL : List UInt8 := [109, 101, 115, 115, 97, 103, 101]
def FField.nmF : FField → ByteArray
  | ⟨a, _, _, _⟩ => a
def vkind : FValue → Int
  | .mk k _ _ _ _ => k
/-- The names of the first elements, the last ahead. -/
def nmR {α : Type} (nm : α → ByteArray) (l : List α) (k : Nat) : List (List UInt8) := ((l.take k).map fun x => (nm x).toList).reverse
theorem nmR_succ {α : Type} {nm : α → ByteArray} {l : List α} {k : Nat} {x : α} (h : l[k]? = some x) : nmR nm l (k + 1) = (nm x).toList :: nmR nm l k := by
  obtain ⟨hk, rfl⟩ := List.getElem?_eq_some_iff.1 h
  unfold nmR
  rw [List.take_succ_eq_append_getElem hk, List.map_append, List.reverse_append]
  rfl
theorem nmR_mem {α : Type} {nm : α → ByteArray} {l : List α} {k : Nat} {a : List UInt8} : hasS (nmR nm l k) a = true ↔ ∃ j e, j < k ∧ l[j]? = some e ∧ (nm e).toList = a := by
  unfold nmR hasS
  rw [List.contains_iff_mem, List.mem_reverse, List.mem_map]
  constructor
  · rintro ⟨e, he, rfl⟩
    obtain ⟨j, hj⟩ := List.mem_iff_getElem?.1 he
    rw [List.getElem?_take] at hj
    split at hj
    · exact ⟨j, e, by assumption, hj, rfl⟩
    · cases hj
  · rintro ⟨j, e, hj, he, rfl⟩
    exact ⟨e, List.mem_iff_getElem?.2 ⟨j, by rw [List.getElem?_take, if_pos hj]; exact he⟩, rfl⟩
/-- Where an element of a name stands. -/
def fo {α : Type} (nm : α → ByteArray) (l : List α) (s : List UInt8) : Option Nat := l.findIdx? fun x => (nm x).toList == s
theorem fo_succ {α : Type} {nm : α → ByteArray} {l : List α} {k : Nat} {x : α} (h : l[k]? = some x) (hn : fo nm (l.take k) (nm x).toList = none) (s : List UInt8) : (if s = (nm x).toList then some k else fo nm (l.take k) s) = fo nm (l.take (k + 1)) s := by
  obtain ⟨hk, rfl⟩ := List.getElem?_eq_some_iff.1 h
  unfold fo at hn ⊢
  rw [List.take_succ_eq_append_getElem hk, List.findIdx?_append]
  by_cases hs : s = (nm l[k]).toList
  · subst hs
    rw [if_pos rfl, hn]
    simp [List.findIdx?_cons, List.length_take, Nat.min_eq_left (Nat.le_of_lt hk)]
  · rw [if_neg hs]
    have hq : ((nm l[k]).toList == s) = false := beq_false_of_ne fun e => hs e.symm
    simp [List.findIdx?_cons, hq]
theorem fo_some {α : Type} {nm : α → ByteArray} {l : List α} {s : List UInt8} {i : Nat} (h : fo nm l s = some i) : ∃ f, l[i]? = some f ∧ i < l.length := by
  unfold fo at h
  rw [List.findIdx?_eq_some_iff_getElem] at h
  obtain ⟨hi, _⟩ := h
  exact ⟨l[i], List.getElem?_eq_getElem hi, hi⟩
theorem fidx_fo {α : Type} (nm : α → ByteArray) (l : List α) (s : ByteArray) : fidx nm l s = match fo nm l s.toList with | some i => (i : Int) | none => -1 := rfl
/-- An element is found at its own place where none before it has its name. -/
theorem fidx_at {α : Type} {nm : α → ByteArray} {l : List α} {k : Nat} {x : α} (h : l[k]? = some x) : (fidx nm l (nm x) = (k : Int)) ↔ hasS (nmR nm l k) (nm x).toList = false := by
  obtain ⟨hk, hx⟩ := List.getElem?_eq_some_iff.1 h
  constructor
  · intro hf
    cases hh : hasS (nmR nm l k) (nm x).toList with
    | false => rfl
    | true =>
      obtain ⟨j, e, hj, he, hn⟩ := nmR_mem.1 hh
      rw [fidx_fo] at hf
      cases h1 : fo nm l (nm x).toList with
      | none => rw [h1] at hf; simp at hf
      | some i =>
        rw [h1] at hf
        have hik : i = k := by have hf2 : (i : Int) = (k : Int) := (by simpa using hf); omega
        subst hik
        unfold fo at h1
        rw [List.findIdx?_eq_some_iff_getElem] at h1
        obtain ⟨_, _, h3⟩ := h1
        have h4 := h3 j hj
        obtain ⟨hjl, hje⟩ := List.getElem?_eq_some_iff.1 he
        rw [hje] at h4
        exact absurd (by simpa using hn) h4
  · intro hh
    refine fidx_hit h (by simp) fun j y hj hy => ?_
    cases hq : ((nm y).toList == (nm x).toList) with
    | false => rfl
    | true =>
      have : hasS (nmR nm l k) (nm x).toList = true := nmR_mem.2 ⟨j, y, hj, hy, by simpa using hq⟩
      rw [hh] at this; cases this
theorem fo_none {α : Type} {nm : α → ByteArray} {l : List α} {k : Nat} {s : List UInt8} : (fo nm (l.take k) s).isNone = !hasS (nmR nm l k) s := by
  cases hh : hasS (nmR nm l k) s with
  | false =>
    have : fo nm (l.take k) s = none := by
      unfold fo
      rw [List.findIdx?_eq_none_iff]
      intro y hy
      cases hq : ((nm y).toList == s) with
      | false => rfl
      | true =>
        obtain ⟨j, hj⟩ := List.mem_iff_getElem?.1 hy
        rw [List.getElem?_take] at hj
        split at hj
        · have : hasS (nmR nm l k) s = true := nmR_mem.2 ⟨j, y, by assumption, hj, by simpa using hq⟩
          rw [hh] at this; cases this
        · cases hj
    rw [this]; rfl
  | true =>
    obtain ⟨j, e, hj, he, hn⟩ := nmR_mem.1 hh
    cases h1 : fo nm (l.take k) s with
    | some i => rfl
    | none =>
      unfold fo at h1
      rw [List.findIdx?_eq_none_iff] at h1
      have := h1 e (List.mem_iff_getElem?.2 ⟨j, by rw [List.getElem?_take, if_pos hj]; exact he⟩)
      rw [hn] at this
      simp at this
/-- A function whose name did not stand before, and that is allowed. -/
noncomputable def fnAt (l : List FFunc) (k : Nat) : Bool := match l[k]? with
  | some f => !hasS (nmR FFunc.nm l k) (FFunc.nm f).toList && ifuV f
  | none => true
/-- A method's function: there, no file, without uses. -/
def mtB (l : List FFunc) (s : ByteArray) : Bool := match fo FFunc.nm l s.toList with
  | some i => match l[i]? with
    | some f => !isFl (FFunc.nm f) && f.usn == 0
    | none => false
  | none => false
def mtAt (l : List FFunc) (ms : List FMethod) (k : Nat) : Bool := match ms[k]? with
  | some ⟨n, _, fr, _, _⟩ => mtB l (fr ++ ⟨#[58, 58]⟩ ++ n)
  | none => true
def fdAt (fs : List FField) (k : Nat) : Bool := match fs[k]? with
  | some ⟨n, _, _, v⟩ => !hasS (nmR FField.nmF fs k) n.toList && goodF n && isV v && inB (vkind v) 0 3
  | none => true
def clAt (l : List FFunc) (cs : List FClass) (k : Nat) : Bool := match cs[k]? with
  | some ⟨n, _, fs, ms⟩ => !hasS (nmR FClass.nm cs k) n.toList && allK (fdAt fs) fs.length && allK (mtAt l ms) ms.length
  | none => true
def c0B : List FClass → Bool
  | ⟨n, _, f :: _, _⟩ :: _ => n.toList == errL && (FField.nmF f).toList == msgL
  | _ => false
noncomputable def prF (l : List FFunc) (cs : List FClass) : Bool := decide (l.length ≤ 5000) && allK (fnAt l) l.length && c0B cs && allK (clAt l cs) cs.length
end Go.Proofs.YtdmbhmhfjappcaaGreatDoor
