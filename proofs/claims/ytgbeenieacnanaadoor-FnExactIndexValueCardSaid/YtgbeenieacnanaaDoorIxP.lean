/-
  IndexValue, plain. Conditions: none.
-/
import Derived.Test.YtgbeenieacnanaaDoorIvP
namespace Go.Proofs.YtgbeenieacnanaaDoor
open Go.ChangeShapes Go.WideShapes Go.ChangeAt Go.RowKit Go.Deep Go.Joins
open Go.ChangeMaps (open_string shut_string)
set_option linter.unusedVariables false
set_option linter.unusedSimpArgs false
set_option maxRecDepth 100000
def tkF (s : ByteArray) : FKey := match psF s with
  | some n => ⟨false, n, ⟨#[]⟩⟩
  | none => ⟨true, 0, s⟩
def zeroV : FValue := .mk 0 0 ⟨#[]⟩ 0 []
def koO (k n : Int) (s : ByteArray) : Option FKey := if k == 0 then some ⟨true, 0, ⟨#[]⟩⟩ else if k == 1 then some ⟨false, n, ⟨#[]⟩⟩ else if k == 2 then some ⟨false, n, ⟨#[]⟩⟩ else if k == 3 then some (tkF s) else none
def koK (k n : Int) (s : ByteArray) : FKey := (koO k n s).getD ⟨false, 0, ⟨#[]⟩⟩
def koB (k n : Int) (s : ByteArray) : Bool := (koO k n s).isSome
def gtF (a : FKey) : List FEntry → FValue
  | [] => zeroV
  | e :: r => if kEq e.key a then e.vv else gtF a r
theorem gtF_no {a : FKey} : ∀ (l : List FEntry) (k : Nat), fkF a k l = -1 → gtF a l = zeroV
  | [], k, _ => rfl
  | y :: r, k, h => by
    rw [fkF] at h
    split at h
    · omega
    · rename_i hn
      rw [gtF, if_neg hn]
      exact gtF_no r (k + 1) h
theorem gtF_yes {a : FKey} : ∀ (l : List FEntry) (k m : Nat), fkF a k l = m → ∃ e, l[m - k]? = some e ∧ gtF a l = e.vv ∧ k ≤ m
  | [], k, m, h => by rw [fkF] at h; omega
  | y :: r, k, m, h => by
    rw [fkF] at h
    split at h
    · rename_i hy
      obtain rfl : k = m := by omega
      exact ⟨y, by simp, by rw [gtF, if_pos hy], Nat.le_refl _⟩
    · rename_i hy
      obtain ⟨e, h1, h2, h3⟩ := gtF_yes r (k + 1) m h
      refine ⟨e, ?_, by rw [gtF, if_neg hy]; exact h2, by omega⟩
      rw [show m - k = (m - (k + 1)) + 1 from by omega, List.getElem?_cons_succ]; exact h1
theorem gtF_wt {a : FKey} : ∀ (l : List FEntry), (gtF a l).wt ≤ FEntry.wts l
  | [] => by rw [gtF, zeroV, FValue.wt_eq]; show 0 + (0 + FEntry.wts []) ≤ _; omega
  | y :: r => by
    have h1 : FEntry.wts (y :: r) = y.wt + FEntry.wts r := by rw [FEntry.wts]
    rw [gtF, h1]
    split
    · obtain ⟨⟨a0, a1, a2⟩, ⟨z0, z1, z2, z3, z4⟩⟩ := y
      show (FValue.mk z0 z1 z2 z3 z4).wt ≤ _
      rw [FEntry.wt_eq, FValue.wt_eq]; omega
    · have := gtF_wt (a := a) r
      omega
/-- What the text part of IndexValue gives. -/
def chF (s : ByteArray) (a : FKey) : FValue := if a.a0 then zeroV else if inB a.a1 0 ((s.size : Int) - 1) then .mk 3 0 (s.extract a.a1.toNat (a.a1.toNat + 1)) 0 [] else zeroV
def ixQ (v x : FValue) : FValue := match v, x with
  | .mk k _ s _ l, .mk k2 n2 s2 _ _ => if k == 4 then (if koB k2 n2 s2 then gtF (koK k2 n2 s2) l else zeroV) else if k == 3 then (if koB k2 n2 s2 then chF s (koK k2 n2 s2) else zeroV) else zeroV
def ixC (v x : FValue) : Int := match v, x with
  | .mk k _ _ _ _, .mk k2 n2 s2 _ _ => if k == 4 || k == 3 then (if koB k2 n2 s2 then 0 else 5) else 0
theorem zeroV_wt : zeroV.wt = 0 := by rw [zeroV, FValue.wt_eq]; rfl
theorem ixQ_wt (v x : FValue) (h : v.wt ≤ 1048576) : (ixQ v x).wt ≤ 1000000000 := by
  obtain ⟨k, n, s, y, l⟩ := v
  obtain ⟨k2, n2, s2, y2, l2⟩ := x
  rw [FValue.wt_eq] at h
  have hz := zeroV_wt
  unfold ixQ
  dsimp only
  split
  · split
    · have := gtF_wt (a := koK k2 n2 s2) l
      omega
    · omega
  · split
    · split
      · unfold chF
        split
        · omega
        · split
          · rw [FValue.wt_eq, ByteArray.size_extract]
            show _ + (0 + FEntry.wts []) ≤ _
            rw [FEntry.wts]
            omega
          · omega
      · omega
    · omega
end Go.Proofs.YtgbeenieacnanaaDoor
