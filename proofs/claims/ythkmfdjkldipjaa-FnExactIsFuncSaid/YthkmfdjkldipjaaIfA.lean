/-
  What it is to be a function that may stand in a program, plain. Conditions: none.
-/
import Derived.Test.YthkmfdjkldipjaaHtL
import Derived.Test.YthkmfdjkldipjaaFindS
import Derived.Test.YthkmfdjkldipjaaSeen
import Derived.Ground.NamesProg
import Derived.Shelf.Lay
import Derived.Shelf.Strings.Prefix
namespace Go.Proofs.Ythkmfdjkldipjaa
open Go.ChangeShapes Go.WideShapes Go.ChangeAt Go.RowKit Go.Deep Go.Joins Go.Shelf
set_option linter.unusedVariables false
set_option linter.unusedSimpArgs false
def laysHasPrefix_ren : Go.Shelf.Ren := ⟨fun | 99 => 60 | 206 => 72 | n => n, fun | 9 => 9 | 4 => 4 | 3 => 3 | n => n, fun | n => n⟩
theorem laysHasPrefix : Go.Proofs.Lays.n99 Try.prog laysHasPrefix_ren := {
  mixed := by kernel_rfl
  f99 := Try.func60.trans (congrArg some (by kernel_rfl))
  f206 := Try.func72.trans (congrArg some (by kernel_rfl))
  t3 := Try.underlying3
  a3 := Try.isAgg3
  z3 := Try.sizeOf3
  v3 := Try.zeroValue3
  t4 := Try.underlying4
  a4 := Try.isAgg4
  z4 := Try.sizeOf4
  v4 := Try.zeroValue4
  t9 := Try.underlying9
  a9 := Try.isAgg9
  z9 := Try.sizeOf9
  v9 := Try.zeroValue9 }
theorem zeroBl (w : World) : (zeroValue 4).run Try.prog w = .ok (.bool false) w := by kernel_rfl
def thisL : List UInt8 := [116, 104, 105, 115]
theorem thisBA : (ByteArray.mk #[116, 104, 105, 115]).toList = thisL := by rw [ByteArray.toList_eq]; rfl
def snm (l : List FStr) (k : Nat) : List (List UInt8) := ((l.take k).map (fun x => x.a0.toList)).reverse
theorem snm_succ (l : List FStr) (k : Nat) (x : FStr) (h : l[k]? = some x) : snm l (k + 1) = x.a0.toList :: snm l k := by
  unfold snm
  rw [List.take_add_one, h]
  simp
theorem snm_mem (l : List FStr) (k : Nat) (s : List UInt8) : hasS (snm l k) s = true ↔ ∃ (j : Nat) (y : FStr), j < k ∧ l[j]? = some y ∧ (y.a0.toList == s) = true := by
  unfold hasS snm
  rw [List.contains_iff_mem, List.mem_reverse, List.mem_map]
  constructor
  · rintro ⟨y, hy, e⟩
    obtain ⟨j, hj⟩ := List.mem_iff_getElem?.1 hy
    rw [List.getElem?_take] at hj
    split at hj
    · next hlt => exact ⟨j, y, hlt, hj, by simpa using e⟩
    · cases hj
  · rintro ⟨j, y, hj, hy, e⟩
    refine ⟨y, List.mem_iff_getElem?.2 ⟨j, ?_⟩, by simpa using e⟩
    rw [List.getElem?_take, if_pos hj]
    exact hy
def slAt (l : List FStr) (k : Nat) : Bool := match l[k]? with
  | some x => !hasS (snm l k) x.a0.toList && (goodF x.a0 && !(x.a0.toList == thisL))
  | none => true
def prAt (l1 l2 : List FParam) (l3 : List FStr) (k : Nat) : Bool := match (l1 ++ l2)[k]?, l3[k]? with
  | some p, some x => x.a0.toList == p.a0.toList
  | some _, none => false
  | none, _ => true
def opAt (l : List FIns) (gen : Bool) (k : Nat) : Bool := match l[k]? with
  | some x => !(x.a0 == 54 && !gen)
  | none => true
def allK (f : Nat → Bool) (n : Nat) : Bool := (List.range n).all f
theorem allK_t {f : Nat → Bool} {n : Nat} (h : ∀ j, j < n → f j = true) : allK f n = true := by
  unfold allK
  rw [List.all_eq_true]
  exact fun x hx => h x (List.mem_range.1 hx)
theorem allK_f {f : Nat → Bool} {n j : Nat} (hj : j < n) (h : f j = false) : allK f n = false := by
  unfold allK
  rw [List.all_eq_false]
  exact ⟨j, List.mem_range.2 hj, by rw [h]; simp⟩
theorem on_succ {f : Nat → Bool} {k : Nat} (h : ∀ j, j < k → f j = true) (hk : f k = true) : ∀ j, j < k + 1 → f j = true := fun j hj => by
  by_cases e : j < k
  · exact h j e
  · rw [show j = k by omega]; exact hk
section
variable {l : List FStr} {l1 l2 : List FParam} {c : List FIns} {gen : Bool} {k : Nat} {x : FStr} {p : FParam} {i : FIns}
theorem sl_1 (hx : l[k]? = some x) (h : hasS (snm l k) x.a0.toList = true) : slAt l k = false := by unfold slAt; rw [hx]; simp only; rw [h]; rfl
theorem sl_2 (hx : l[k]? = some x) (h : goodF x.a0 = false) : slAt l k = false := by unfold slAt; rw [hx]; simp only; rw [h]; simp
theorem sl_3 (hx : l[k]? = some x) (h : (x.a0.toList == thisL) = true) : slAt l k = false := by unfold slAt; rw [hx]; simp only; rw [h]; simp
theorem sl_t (hx : l[k]? = some x) (h1 : hasS (snm l k) x.a0.toList = false) (h2 : goodF x.a0 = true) (h3 : (x.a0.toList == thisL) = false) : slAt l k = true := by unfold slAt; rw [hx]; simp only; rw [h1, h2, h3]; rfl
theorem pr_f (hp : (l1 ++ l2)[k]? = some p) (hx : l[k]? = some x) (h : (x.a0.toList == p.a0.toList) = false) : prAt l1 l2 l k = false := by unfold prAt; rw [hp, hx]; exact h
theorem pr_t (hp : (l1 ++ l2)[k]? = some p) (hx : l[k]? = some x) (h : (x.a0.toList == p.a0.toList) = true) : prAt l1 l2 l k = true := by unfold prAt; rw [hp, hx]; exact h
theorem pr_n (hk : l1.length + l2.length ≤ k) : prAt l1 l2 l k = true := by unfold prAt; rw [List.getElem?_eq_none (by rw [List.length_append]; exact hk)]
theorem op_f (hx : c[k]? = some i) (h1 : (i.a0 == 54) = true) (h2 : gen = false) : opAt c gen k = false := by unfold opAt; rw [hx]; simp only; rw [h1, h2]; rfl
theorem op_t1 (hx : c[k]? = some i) (h1 : (i.a0 == 54) = false) : opAt c gen k = true := by unfold opAt; rw [hx]; simp only; rw [h1]; rfl
theorem op_t2 (hx : c[k]? = some i) (h2 : gen = true) : opAt c gen k = true := by unfold opAt; rw [hx]; simp only; rw [h2]; simp
/-- SlotOf's answer is the slot itself just where no earlier one has its name. -/
theorem sl_fidx (hx : l[k]? = some x) : (fidx FStr.nm l x.a0 != (k : Int)) = hasS (snm l k) x.a0.toList := by
  cases hh : hasS (snm l k) x.a0.toList with
  | false =>
    have : fidx FStr.nm l x.a0 = (k : Int) := by
      refine fidx_hit hx (by show (x.a0.toList == x.a0.toList) = true; simp) fun j y hj hy => ?_
      cases hq : ((FStr.nm y).toList == x.a0.toList) with
      | false => rfl
      | true =>
        have := (snm_mem l k x.a0.toList).2 ⟨j, y, hj, hy, hq⟩
        rw [hh] at this
        cases this
    rw [this]; simp
  | true =>
    obtain ⟨j, y, hj, hy, e⟩ := (snm_mem l k x.a0.toList).1 hh
    have hne : fidx FStr.nm l x.a0 ≠ (k : Int) := by
      intro hc
      unfold fidx at hc
      cases hf : l.findIdx? (fun z => (FStr.nm z).toList == x.a0.toList) with
      | none => rw [hf] at hc; simp only at hc; omega
      | some q =>
        rw [hf] at hc
        simp only at hc
        have hq : q = k := by omega
        subst hq
        rw [List.findIdx?_eq_some_iff_getElem] at hf
        obtain ⟨_, _, h3⟩ := hf
        have h4 := h3 j hj
        have hj2 := (List.getElem?_eq_some_iff.1 hy)
        obtain ⟨hj3, hj4⟩ := hj2
        rw [hj4] at h4
        exact h4 e
    simpa using hne
end
def nmsB (z1 z2 : List FParam) (z3 : List FStr) : Bool := decide (z3.length ≤ 600) && (decide (z1.length + z2.length ≤ z3.length) && (allK (slAt z3) z3.length && allK (prAt z1 z2 z3) (z1.length + z2.length)))
def isFl (z0 : ByteArray) : Bool := Lib.hasPrefix z0.data.toList [47]
noncomputable def ifuF (z0 : ByteArray) (z1 z2 : List FParam) (z3 : List FStr) (z4 : Bool) (z5 : List FIns) : Bool :=
  inB z0.size 1 100 && (decide (z5.length ≤ 8000) && (nmsB z1 z2 z3 && (!(isFl z0 && (decide (0 < z3.length) || z4)) && (allK (opAt z5 z4) z5.length && htB z5 z3.length))))
def pvals (l : List FParam) : List Value := l.flatMap (fun p => [.string p.a0, .bool p.a1])
theorem pvals_len (l : List FParam) : (pvals l).length = l.length * 2 := by
  induction l with
  | nil => rfl
  | cons x r ih =>
    have e : pvals (x :: r) = [.string x.a0, .bool x.a1] ++ pvals r := List.flatMap_cons
    rw [e, List.length_append, ih, List.length_cons]
    simp
    omega
theorem pvals_app (l r : List FParam) : pvals (l ++ r) = pvals l ++ pvals r := by unfold pvals; rw [List.flatMap_append]
theorem pvals_at : ∀ (l : List FParam) (k : Nat) (p : FParam), l[k]? = some p → (pvals l)[k * 2]? = some (.string p.a0) ∧ (pvals l)[k * 2 + 1]? = some (.bool p.a1)
  | [], k, p, h => by simp at h
  | x :: r, 0, p, h => by
    obtain rfl : x = p := by simpa using h
    have e : pvals (x :: r) = [.string x.a0, .bool x.a1] ++ pvals r := List.flatMap_cons
    rw [e]
    exact ⟨rfl, rfl⟩
  | x :: r, k + 1, p, h => by
    have e : pvals (x :: r) = .string x.a0 :: .bool x.a1 :: pvals r := List.flatMap_cons
    obtain ⟨h1, h2⟩ := pvals_at r k p (by simpa using h)
    rw [e, show (k + 1) * 2 = k * 2 + 1 + 1 by omega]
    simp only [List.getElem?_cons_succ]
    exact ⟨h1, h2⟩
theorem pvals_flat : ∀ (l : List FParam), FParam.flat l = (pvals l).map Cel.v
  | [] => rfl
  | x :: r => by
    have e : pvals (x :: r) = [.string x.a0, .bool x.a1] ++ pvals r := List.flatMap_cons
    have e2 : FParam.flat (x :: r) = x.c ++ FParam.flat r := List.flatMap_cons
    obtain ⟨z0, z1⟩ := x
    rw [e, e2, pvals_flat r, FParam.c_eq, List.map_append]
    rfl
theorem pvals_rd {w : World} {B : Nat} {e : TypeId} {l : List FParam} {u : Value} (h : RdC w B (.s e 2 l.length (FParam.flat l)) u) : Rd w B 2 u l.length (pvals l) := by
  unfold RdC at h
  obtain ⟨A, c, rfl, h1, h2, h3, h4⟩ := h
  refine ⟨A, c, rfl, h1, h2, pvals_len l, fun hn => ?_⟩
  obtain ⟨b, off, rfl, hb, hL⟩ := h4 hn
  refine ⟨b, off, rfl, hb, fun j u hu => ?_⟩
  obtain ⟨u2, e2, q2⟩ := RdL.get _ off j (.v u) hL (by rw [pvals_flat, List.getElem?_map, hu]; rfl)
  unfold RdC at q2
  rw [e2, q2]
theorem pvals_one (l : List FParam) : ∀ u ∈ pvals l, u.oneCell' = true := by
  intro u hu
  unfold pvals at hu
  rw [List.mem_flatMap] at hu
  obtain ⟨p, _, hp⟩ := hu
  simp only [List.mem_cons, List.not_mem_nil, or_false] at hp
  rcases hp with rfl | rfl <;> rfl
end Go.Proofs.Ythkmfdjkldipjaa
